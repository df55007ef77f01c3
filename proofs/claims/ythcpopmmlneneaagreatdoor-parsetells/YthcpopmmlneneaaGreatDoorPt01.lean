/-
  Arrays and functions in memory: shapes, cells. No condition.
-/
import Derived.Test.YthcpopmmlneneaaGreatDoorPt00
set_option linter.unusedVariables false
set_option linter.unusedSimpArgs false
namespace Go.Proofs.YthcpopmmlneneaaGreatDoor
open Go.RowKit
set_option maxHeartbeats 20000000
set_option maxRecDepth 100000
open World renaming block_lt_of_cell?→Za
theorem Te {D:Nat→Prop}{w:World}{l:List Bs}{a:Option Addr}{n cap:Nat}(g:Bb D w l (.slice a n cap))(i:Nat)(f:i<l.length):∃b d,a=some ⟨b,d,none⟩∧D b∧b<w.heap.size∧w.cell? ⟨b,d+i,none⟩=some (.string (Aa (l.getD i []))):=by
 obtain⟨k,m,b,d,j,o,p,c,e⟩:=g
 cases j
 rcases c with c|⟨c,h⟩
 ·omega
 ·exact⟨b,d,c,h,Za _ _ (e i f),e i f⟩
theorem Bb.shape {D:Nat→Prop}{w:World}{l:List Bs}{v:Value}(c:Bb D w l v):∃a cap,v=.slice a l.length cap:=by
 obtain⟨e,f,b,g,d,_⟩:=c;exact⟨_,_,d⟩
theorem Bb.fits {D:Nat→Prop}{w:World}{l:List Bs}{v:Value}(a:Bb D w l v):Cv l.length:=by
 obtain⟨d,e,b,h,g,f,c,_⟩:=a;exact c
theorem Cd.mono {D D':Nat→Prop}{w:World}(h:∀b,D b→D' b){l:List Ar}{v:Value}(c:Cd D w l v):Cd D' w l v:=by
 obtain⟨a,cap,b,j,i,d,e,f,g⟩:=c;exact⟨a,cap,b,j,i,d,e,f.imp id fun c=>⟨c.1,h _ c.2⟩,g⟩
theorem Bw.mono {D D':Nat→Prop}{w:World}(e:∀b,D b→D' b){l:List Fu}{v:Value}(c:Bw D w l v):Bw D' w l v:=by
 obtain⟨a,cap,b,n,pv,lv,g,m,h,j,k,d⟩:=c;exact⟨a,cap,b,n,pv,lv,g,m,h,j,k.imp id fun c=>⟨c.1,e _ c.2⟩,fun i f=>⟨(d i f).1,(d i f).2.1.mono e,(d i f).2.2.1.mono e,(d i f).2.2.2.mono e⟩⟩
theorem Cd.shape {D:Nat→Prop}{w:World}{l:List Ar}{v:Value}(c:Cd D w l v):∃a cap,v=.slice a l.length cap:=by
 obtain⟨a,cap,b,e,d,_⟩:=c;exact⟨a,cap,d⟩
theorem Bw.shape {D:Nat→Prop}{w:World}{l:List Fu}{v:Value}(c:Bw D w l v):∃a cap,v=.slice a l.length cap:=by
 obtain⟨a,cap,b,f,pv,lv,e,d,_⟩:=c;exact⟨a,cap,d⟩
theorem Cd.fits {D:Nat→Prop}{w:World}{l:List Ar}{v:Value}(c:Cd D w l v):Cv l.length:=by
 obtain⟨a,cap,b,g,f,e,d,_⟩:=c;exact d
theorem Bw.fits {D:Nat→Prop}{w:World}{l:List Fu}{v:Value}(c:Bw D w l v):Cv l.length:=by
 obtain⟨a,cap,b,h,pv,lv,e,g,f,d,_⟩:=c;exact d
theorem Cd.cellAt {D:Nat→Prop}{w:World}{l:List Ar}{a:Option Addr}{n cap:Nat}(g:Cd D w l (.slice a n cap))(i:Nat)(f:i<l.length):∃b c,a=some ⟨b,c,none⟩∧D b∧b<w.heap.size∧
  w.cell? ⟨b,c+i*2,none⟩=some (.string (Aa (Em l i).name))∧w.cell? ⟨b,c+i*2+1,none⟩=some (.int .i64 (Em l i).size):=by
 obtain⟨k,m,b,c,j,o,p,d,e⟩:=g
 cases j
 rcases d with d|⟨d,h⟩
 ·omega
 ·exact⟨b,c,d,h,Za _ _ (e i f).1,(e i f).1,(e i f).2⟩
theorem Bw.cellAt {D:Nat→Prop}{w:World}{l:List Fu}{a:Option Addr}{n cap:Nat}(q:Bw D w l (.slice a n cap))(i:Nat)(u:i<l.length):∃b c p v s,a=some ⟨b,c,none⟩∧D b∧b<w.heap.size∧
  w.cell? ⟨b,c+i*4,none⟩=some (.string (Aa (Bc l i).name))∧w.cell? ⟨b,c+i*4+1,none⟩=some p∧w.cell? ⟨b,c+i*4+2,none⟩=some v∧w.cell? ⟨b,c+i*4+3,none⟩=some s∧
  Bb D w (Bc l i).params p∧Bb D w (Bc l i).locals v∧Au D w (Bc l i).body s:=by
 obtain⟨y,z,b,c,pv,lv,f,x,A,B,d,r⟩:=q
 cases x
 rcases d with d|⟨d,t⟩
 ·omega
 ·obtain⟨⟨e,g,h,j⟩,k,m,o⟩:=r i u
  exact⟨b,c,pv i,lv i,f i,d,t,Za _ _ e,e,g,h,j,k,m,o⟩
end Go.Proofs.YthcpopmmlneneaaGreatDoor
