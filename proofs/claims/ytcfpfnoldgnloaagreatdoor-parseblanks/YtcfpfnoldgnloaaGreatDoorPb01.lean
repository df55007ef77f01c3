/-
  Arrays and functions in memory: shapes, cells. No condition.
-/
import Derived.Test.YtcfpfnoldgnloaaGreatDoorPb00
set_option linter.unusedVariables false
set_option linter.unusedSimpArgs false
namespace Go.Proofs.YtcfpfnoldgnloaaGreatDoor
open Go.RowKit
set_option maxHeartbeats 20000000
set_option maxRecDepth 100000
open World renaming block_lt_of_cell?→Za
theorem Na {D:Nat→Prop}{w:World}{l:List Bs}{a:Option Addr}{n cap:Nat}(h:Ba D w l (.slice a n cap))(i:Nat)(hl:i<l.length):∃b off,a=some ⟨b,off,none⟩∧D b∧b<w.heap.size∧w.cell? ⟨b,off+i,none⟩=some (.string (Aa (l.getD i []))):=by
 obtain⟨a',cap',b,off,hv,h1,h2,h3,h4⟩:=h
 cases hv
 rcases h3 with h3|⟨h3,hD⟩
 ·omega
 ·exact⟨b,off,h3,hD,Za _ _ (h4 i hl),h4 i hl⟩
theorem Ba.shape {D:Nat→Prop}{w:World}{l:List Bs}{v:Value}(h:Ba D w l v):∃a cap,v=.slice a l.length cap:=by
 obtain⟨a',cap',b,off,hv,_⟩:=h;exact⟨_,_,hv⟩
theorem Ba.fits {D:Nat→Prop}{w:World}{l:List Bs}{v:Value}(h:Ba D w l v):Ct l.length:=by
 obtain⟨a',cap',b,off,hv,h1,h2,_⟩:=h;exact h2
theorem Bt.mono {D D':Nat→Prop}{w:World}(hD:∀b,D b→D' b){l:List Ar}{v:Value}(h:Bt D w l v):Bt D' w l v:=by
 obtain⟨a,cap,b,off,hv,h1,h2,h3,h4⟩:=h;exact⟨a,cap,b,off,hv,h1,h2,h3.imp id fun h=>⟨h.1,hD _ h.2⟩,h4⟩
theorem Bw.mono {D D':Nat→Prop}{w:World}(hD:∀b,D b→D' b){l:List Fu}{v:Value}(h:Bw D w l v):Bw D' w l v:=by
 obtain⟨a,cap,b,off,pv,lv,bv,hv,h1,h2,h3,h4⟩:=h;exact⟨a,cap,b,off,pv,lv,bv,hv,h1,h2,h3.imp id fun h=>⟨h.1,hD _ h.2⟩,fun i hi=>⟨(h4 i hi).1,(h4 i hi).2.1.mono hD,(h4 i hi).2.2.1.mono hD,(h4 i hi).2.2.2.mono hD⟩⟩
theorem Bt.shape {D:Nat→Prop}{w:World}{l:List Ar}{v:Value}(h:Bt D w l v):∃a cap,v=.slice a l.length cap:=by
 obtain⟨a,cap,b,off,hv,_⟩:=h;exact⟨a,cap,hv⟩
theorem Bw.shape {D:Nat→Prop}{w:World}{l:List Fu}{v:Value}(h:Bw D w l v):∃a cap,v=.slice a l.length cap:=by
 obtain⟨a,cap,b,off,pv,lv,bv,hv,_⟩:=h;exact⟨a,cap,hv⟩
theorem Bt.fits {D:Nat→Prop}{w:World}{l:List Ar}{v:Value}(h:Bt D w l v):Ct l.length:=by
 obtain⟨a,cap,b,off,hv,h1,h2,_⟩:=h;exact h2
theorem Bw.fits {D:Nat→Prop}{w:World}{l:List Fu}{v:Value}(h:Bw D w l v):Ct l.length:=by
 obtain⟨a,cap,b,off,pv,lv,bv,hv,h1,h2,_⟩:=h;exact h2
theorem Bt.cellAt {D:Nat→Prop}{w:World}{l:List Ar}{a:Option Addr}{n cap:Nat}(h:Bt D w l (.slice a n cap))(i:Nat)(hl:i<l.length):∃b off,a=some ⟨b,off,none⟩∧D b∧b<w.heap.size∧
  w.cell? ⟨b,off+i*2,none⟩=some (.string (Aa (Kz l i).name))∧w.cell? ⟨b,off+i*2+1,none⟩=some (.int .i64 (Kz l i).size):=by
 obtain⟨a',cap',b,off,hv,h1,h2,h3,h4⟩:=h
 cases hv
 rcases h3 with h3|⟨h3,hD⟩
 ·omega
 ·exact⟨b,off,h3,hD,Za _ _ (h4 i hl).1,(h4 i hl).1,(h4 i hl).2⟩
theorem Bw.cellAt {D:Nat→Prop}{w:World}{l:List Fu}{a:Option Addr}{n cap:Nat}(h:Bw D w l (.slice a n cap))(i:Nat)(hl:i<l.length):∃b off p v s,a=some ⟨b,off,none⟩∧D b∧b<w.heap.size∧
  w.cell? ⟨b,off+i*4,none⟩=some (.string (Aa (Dn l i).name))∧w.cell? ⟨b,off+i*4+1,none⟩=some p∧w.cell? ⟨b,off+i*4+2,none⟩=some v∧w.cell? ⟨b,off+i*4+3,none⟩=some s∧
  Ba D w (Dn l i).params p∧Ba D w (Dn l i).locals v∧Ax D w (Dn l i).body s:=by
 obtain⟨a',cap',b,off,pv,lv,bv,hv,h1,h2,h3,h4⟩:=h
 cases hv
 rcases h3 with h3|⟨h3,hD⟩
 ·omega
 ·obtain⟨⟨c0,c1,c2,c3⟩,e1,e2,e3⟩:=h4 i hl
  exact⟨b,off,pv i,lv i,bv i,h3,hD,Za _ _ c0,c0,c1,c2,c3,e1,e2,e3⟩
end Go.Proofs.YtcfpfnoldgnloaaGreatDoor
