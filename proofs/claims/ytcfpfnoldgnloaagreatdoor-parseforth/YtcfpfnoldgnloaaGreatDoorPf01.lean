/-
  Arrays and functions in memory: shapes, cells. No condition.
-/
import Derived.Test.YtcfpfnoldgnloaaGreatDoorPf00
set_option linter.unusedVariables false
set_option linter.unusedSimpArgs false
namespace Go.Proofs.YtcfpfnoldgnloaaGreatDoor
open Go.RowKit
set_option maxHeartbeats 20000000
set_option maxRecDepth 100000
open World renaming block_lt_of_cell?→Za
theorem Nb {D:Nat→Prop}{w:World}{l:List Bs}{a:Option Addr}{n cap:Nat}(h:Az D w l (.slice a n cap))(i:Nat)(hl:i<l.length):∃b off,a=some ⟨b,off,none⟩∧D b∧b<w.heap.size∧w.cell? ⟨b,off+i,none⟩=some (.string (Aa (l.getD i []))):=by
 obtain⟨a',cap',b,off,hv,h1,h2,h3,h4⟩:=h
 cases hv
 rcases h3 with h3|⟨h3,hD⟩
 ·omega
 ·exact⟨b,off,h3,hD,Za _ _ (h4 i hl),h4 i hl⟩
theorem Az.shape {D:Nat→Prop}{w:World}{l:List Bs}{v:Value}(h:Az D w l v):∃a cap,v=.slice a l.length cap:=by
 obtain⟨a',cap',b,off,hv,_⟩:=h;exact⟨_,_,hv⟩
theorem Az.fits {D:Nat→Prop}{w:World}{l:List Bs}{v:Value}(h:Az D w l v):Ct l.length:=by
 obtain⟨a',cap',b,off,hv,h1,h2,_⟩:=h;exact h2
theorem Bv.mono {D D':Nat→Prop}{w:World}(hD:∀b,D b→D' b){l:List Ar}{v:Value}(h:Bv D w l v):Bv D' w l v:=by
 obtain⟨a,cap,b,off,hv,h1,h2,h3,h4⟩:=h;exact⟨a,cap,b,off,hv,h1,h2,h3.imp id fun h=>⟨h.1,hD _ h.2⟩,h4⟩
theorem Bx.mono {D D':Nat→Prop}{w:World}(hD:∀b,D b→D' b){l:List Fu}{v:Value}(h:Bx D w l v):Bx D' w l v:=by
 obtain⟨a,cap,b,off,pv,lv,bv,hv,h1,h2,h3,h4⟩:=h;exact⟨a,cap,b,off,pv,lv,bv,hv,h1,h2,h3.imp id fun h=>⟨h.1,hD _ h.2⟩,fun i hi=>⟨(h4 i hi).1,(h4 i hi).2.1.mono hD,(h4 i hi).2.2.1.mono hD,(h4 i hi).2.2.2.mono hD⟩⟩
theorem Bv.shape {D:Nat→Prop}{w:World}{l:List Ar}{v:Value}(h:Bv D w l v):∃a cap,v=.slice a l.length cap:=by
 obtain⟨a,cap,b,off,hv,_⟩:=h;exact⟨a,cap,hv⟩
theorem Bx.shape {D:Nat→Prop}{w:World}{l:List Fu}{v:Value}(h:Bx D w l v):∃a cap,v=.slice a l.length cap:=by
 obtain⟨a,cap,b,off,pv,lv,bv,hv,_⟩:=h;exact⟨a,cap,hv⟩
theorem Bv.fits {D:Nat→Prop}{w:World}{l:List Ar}{v:Value}(h:Bv D w l v):Ct l.length:=by
 obtain⟨a,cap,b,off,hv,h1,h2,_⟩:=h;exact h2
theorem Bx.fits {D:Nat→Prop}{w:World}{l:List Fu}{v:Value}(h:Bx D w l v):Ct l.length:=by
 obtain⟨a,cap,b,off,pv,lv,bv,hv,h1,h2,_⟩:=h;exact h2
theorem Bv.cellAt {D:Nat→Prop}{w:World}{l:List Ar}{a:Option Addr}{n cap:Nat}(h:Bv D w l (.slice a n cap))(i:Nat)(hl:i<l.length):∃b off,a=some ⟨b,off,none⟩∧D b∧b<w.heap.size∧
  w.cell? ⟨b,off+i*2,none⟩=some (.string (Aa (Lb l i).name))∧w.cell? ⟨b,off+i*2+1,none⟩=some (.int .i64 (Lb l i).size):=by
 obtain⟨a',cap',b,off,hv,h1,h2,h3,h4⟩:=h
 cases hv
 rcases h3 with h3|⟨h3,hD⟩
 ·omega
 ·exact⟨b,off,h3,hD,Za _ _ (h4 i hl).1,(h4 i hl).1,(h4 i hl).2⟩
theorem Bx.cellAt {D:Nat→Prop}{w:World}{l:List Fu}{a:Option Addr}{n cap:Nat}(h:Bx D w l (.slice a n cap))(i:Nat)(hl:i<l.length):∃b off p v s,a=some ⟨b,off,none⟩∧D b∧b<w.heap.size∧
  w.cell? ⟨b,off+i*4,none⟩=some (.string (Aa (Eb l i).name))∧w.cell? ⟨b,off+i*4+1,none⟩=some p∧w.cell? ⟨b,off+i*4+2,none⟩=some v∧w.cell? ⟨b,off+i*4+3,none⟩=some s∧
  Az D w (Eb l i).params p∧Az D w (Eb l i).locals v∧Av D w (Eb l i).body s:=by
 obtain⟨a',cap',b,off,pv,lv,bv,hv,h1,h2,h3,h4⟩:=h
 cases hv
 rcases h3 with h3|⟨h3,hD⟩
 ·omega
 ·obtain⟨⟨c0,c1,c2,c3⟩,e1,e2,e3⟩:=h4 i hl
  exact⟨b,off,pv i,lv i,bv i,h3,hD,Za _ _ c0,c0,c1,c2,c3,e1,e2,e3⟩
end Go.Proofs.YtcfpfnoldgnloaaGreatDoor
