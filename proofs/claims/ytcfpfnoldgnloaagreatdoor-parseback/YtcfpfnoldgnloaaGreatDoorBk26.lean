/-
  expr: an expression's text, a kind each.
-/
import Derived.Test.YtcfpfnoldgnloaaGreatDoorBk25
import Derived.Shelf.RegionOpenPlain
import Derived.Laws.IdiomCopy
import Derived.Laws.BitsLemmas
set_option linter.unusedVariables false
set_option linter.unusedSimpArgs false
namespace Go.Proofs.YtcfpfnoldgnloaaGreatDoor
open Go.RowKit
set_option maxHeartbeats 20000000
set_option maxRecDepth 100000
open Go.Lib renaming hid→Za
open PFr renaming alloc→Zb,of_below→Zf
open Go.Proofs.Tryz renaming prog→Zc,func32→Zh,ntmps32→Zi,func134→Zk,ntmps134→Zl
open List renaming getElem_cons_zero→Zd,getElem_cons_succ→Ze,append_assoc→Zg,map_cons→Zm,map_nil→Zn,nil_append→Zo,append_nil→Zp,getElem?_eq_getElem→Zr
open Int renaming reduceEq→Zj
open Bool renaming and_eq_true→Zq
theorem expr_1(o n:Int)(nm:Bs)(args:List Ex)(ih:∀x,x∈args→eN x):eN (.mk 1 o n nm args):=by
 intro b bs t s w hb ht hp hs hn hw hf;have hs:aJ (· <b) w args s:=hs;have hn:I64 n:=hn;have hwh:=(bS hw).1;have hwa:∀x,x∈args→bZ x=true:=(bS hw).2;obtain⟨sa,sc,rfl⟩:=hs.shape;have E:Hid (aK (.mk 1 o n nm args)=Lib.itoa n):=by exact kV o n nm args
 rw[E.out]at hf ⊢;show Calls _ _ #[.pointer (some ⟨b,0,none⟩),.agg #[.int .i64 1,.int .i64 o,.int .i64 n,.string (aB nm),.slice sa args.length sc]] _ _
 have IH:=Za ih;have HT:=Za ht;have HP:=Za hp;have HN:=Za hn;have HF:=Za hf;have HS:=Za hs;have HWA:=Za hwa;have hp1:=Za (hp.alloc (.cells #[.int .i64 1,.int .i64 o,.int .i64 n,.string (aB nm),.slice sa args.length sc] 27));have hf1:=Za (Zb hp (.cells #[.int .i64 1,.int .i64 o,.int .i64 n,.string (aB nm),.slice sa args.length sc] 27));have hl1:=Za (Loc.new hp [.int .i64 1,.int .i64 o,.int .i64 n,.string (aB nm),.slice sa args.length sc] 27);clear ih ht hp hs hw hf hn hwh hwa;go_enter Zh,Zi
 go_wp2_with fail
 refine(cx o _).mono ?_;rintro r w2 ⟨rfl,hb2⟩;have hf2:=Zf hb2 hp1.out.lt;have HP2:=Za (hp1.out.old hb2);have HF2:=Za (hf1.out.trans hf2);have HL2:=Za (hl1.out.step hf2);clear hb2 hf2 hp1 hf1 hl1;have c0:=HL2.out.cell 0 (by simp);have c1:=HL2.out.cell 1 (by simp);have c2:=HL2.out.cell 2 (by simp);have c3:=HL2.out.cell 3 (by simp);have c4:=HL2.out.cell 4 (by simp);simp only[Zd,Ze]at c0 c1 c2 c3 c4;go_wp2_with fail
 refine(rB n HN.out w2 (HT.out.fr HF2.out HP.out hb)).mono ?_;rintro r w3 ⟨rfl,hb3⟩;have hf3:=Zf hb3 HP2.out.lt;have HP3:=Za (HP2.out.old hb3);have HF3:=Za (HF2.out.trans hf3);have HL3:=Za (HL2.out.step hf3);clear hb3 hf3;go_wp2_with fail
 refine(lJ (Lib.itoa n) _ _ b _ t w3 rfl HP3.out (HF.out.mono (by simp;try omega))).mono ?_;rintro r w4 ⟨rfl,hp4,hf4⟩;have HP4:=Za hp4;have HF4:=Za (HF3.out.trans hf4);have HL4:=Za (HL3.out.step hf4);clear hp4 hf4 c0 c1 c2 c3 c4;go_wp2_with fail
 go_end0
 exact⟨rfl,by simpa using HP4.out,HF4.out⟩
theorem expr_2(o n:Int)(nm:Bs)(args:List Ex)(ih:∀x,x∈args→eN x):eN (.mk 2 o n nm args):=by
 intro b bs t s w hb ht hp hs hn hw hf;have hs:aJ (· <b) w args s:=hs;have hn:I64 n:=hn;have hwh:=(bS hw).1;have hwa:∀x,x∈args→bZ x=true:=(bS hw).2;obtain⟨sa,sc,rfl⟩:=hs.shape;have E:Hid (aK (.mk 2 o n nm args)=nm):=by exact lM o n nm args
 rw[E.out]at hf ⊢;show Calls _ _ #[.pointer (some ⟨b,0,none⟩),.agg #[.int .i64 2,.int .i64 o,.int .i64 n,.string (aB nm),.slice sa args.length sc]] _ _
 have IH:=Za ih;have HT:=Za ht;have HP:=Za hp;have HN:=Za hn;have HF:=Za hf;have HS:=Za hs;have HWA:=Za hwa;have hp1:=Za (hp.alloc (.cells #[.int .i64 2,.int .i64 o,.int .i64 n,.string (aB nm),.slice sa args.length sc] 27));have hf1:=Za (Zb hp (.cells #[.int .i64 2,.int .i64 o,.int .i64 n,.string (aB nm),.slice sa args.length sc] 27));have hl1:=Za (Loc.new hp [.int .i64 2,.int .i64 o,.int .i64 n,.string (aB nm),.slice sa args.length sc] 27);clear ih ht hp hs hw hf hn hwh hwa;go_enter Zh,Zi
 go_wp2_with fail
 refine(cx o _).mono ?_;rintro r w2 ⟨rfl,hb2⟩;have hf2:=Zf hb2 hp1.out.lt;have HP2:=Za (hp1.out.old hb2);have HF2:=Za (hf1.out.trans hf2);have HL2:=Za (hl1.out.step hf2);clear hb2 hf2 hp1 hf1 hl1;have c0:=HL2.out.cell 0 (by simp);have c1:=HL2.out.cell 1 (by simp);have c2:=HL2.out.cell 2 (by simp);have c3:=HL2.out.cell 3 (by simp);have c4:=HL2.out.cell 4 (by simp);simp only[Zd,Ze]at c0 c1 c2 c3 c4;go_wp2_with fail
 refine(lJ nm _ _ b _ t w2 rfl HP2.out (HF.out.mono (by simp;try omega))).mono ?_;rintro r w3 ⟨rfl,hp3,hf3⟩;have HP3:=Za hp3;have HF3:=Za (HF2.out.trans hf3);have HL3:=Za (HL2.out.step hf3);clear hp3 hf3 c0 c1 c2 c3 c4;go_wp2_with fail
 go_end0
 exact⟨rfl,by simpa using HP3.out,HF3.out⟩
theorem expr_7(o n:Int)(nm:Bs)(args:List Ex)(ih:∀x,x∈args→eN x):eN (.mk 7 o n nm args):=by
 intro b bs t s w hb ht hp hs hn hw hf;have hs:aJ (· <b) w args s:=hs;have hn:I64 n:=hn;have hwh:=(bS hw).1;have hwa:∀x,x∈args→bZ x=true:=(bS hw).2;obtain⟨sa,sc,rfl⟩:=hs.shape;have E:Hid (aK (.mk 7 o n nm args)=[114,101,97,100,40,41]):=by exact lG o n nm args
 rw[E.out]at hf ⊢;show Calls _ _ #[.pointer (some ⟨b,0,none⟩),.agg #[.int .i64 7,.int .i64 o,.int .i64 n,.string (aB nm),.slice sa args.length sc]] _ _
 have IH:=Za ih;have HT:=Za ht;have HP:=Za hp;have HN:=Za hn;have HF:=Za hf;have HS:=Za hs;have HWA:=Za hwa;have hp1:=Za (hp.alloc (.cells #[.int .i64 7,.int .i64 o,.int .i64 n,.string (aB nm),.slice sa args.length sc] 27));have hf1:=Za (Zb hp (.cells #[.int .i64 7,.int .i64 o,.int .i64 n,.string (aB nm),.slice sa args.length sc] 27));have hl1:=Za (Loc.new hp [.int .i64 7,.int .i64 o,.int .i64 n,.string (aB nm),.slice sa args.length sc] 27);clear ih ht hp hs hw hf hn hwh hwa;go_enter Zh,Zi
 go_wp2_with fail
 refine(cx o _).mono ?_;rintro r w2 ⟨rfl,hb2⟩;have hf2:=Zf hb2 hp1.out.lt;have HP2:=Za (hp1.out.old hb2);have HF2:=Za (hf1.out.trans hf2);have HL2:=Za (hl1.out.step hf2);clear hb2 hf2 hp1 hf1 hl1;have c0:=HL2.out.cell 0 (by simp);have c1:=HL2.out.cell 1 (by simp);have c2:=HL2.out.cell 2 (by simp);have c3:=HL2.out.cell 3 (by simp);have c4:=HL2.out.cell 4 (by simp);simp only[Zd,Ze]at c0 c1 c2 c3 c4;go_wp2_with fail
 refine(lJ [114,101,97,100,40,41] _ _ b _ t w2 rfl HP2.out (HF.out.mono (by simp;try omega))).mono ?_;rintro r w3 ⟨rfl,hp3,hf3⟩;have HP3:=Za hp3;have HF3:=Za (HF2.out.trans hf3);have HL3:=Za (HL2.out.step hf3);clear hp3 hf3 c0 c1 c2 c3 c4;go_wp2_with fail
 go_end0
 exact⟨rfl,by simpa using HP3.out,HF3.out⟩
theorem expr_3(o n:Int)(nm:Bs)(args:List Ex)(ih:∀x,x∈args→eN x):eN (.mk 3 o n nm args):=by
 intro b bs t s w hb ht hp hs hn hw hf;have hs:aJ (· <b) w args s:=hs;have hn:I64 n:=hn;have hwh:=(bS hw).1;have hwa:∀x,x∈args→bZ x=true:=(bS hw).2;obtain⟨sa,sc,rfl⟩:=hs.shape;have hlen:args.length=1:=by have q:=hwh;simp [bY,cB,Ex.kind,Ex.args]at q;omega
 have hl0:0<args.length:=by omega
 obtain⟨eb,off,_,rfl,_⟩:=hs.cellAt 0 (by omega);clear hlen;have E:Hid (aK (.mk 3 o n nm args)=aU o++dC (bI args 0) 9):=by exact kW o n nm args hl0
 rw[E.out]at hf ⊢;show Calls _ _ #[.pointer (some ⟨b,0,none⟩),.agg #[.int .i64 3,.int .i64 o,.int .i64 n,.string (aB nm),.slice (some ⟨eb,off,none⟩) args.length sc]] _ _
 have IH:=Za ih;have HT:=Za ht;have HP:=Za hp;have HN:=Za hn;have HF:=Za hf;have HS:=Za hs;have HWA:=Za hwa;have hp1:=Za (hp.alloc (.cells #[.int .i64 3,.int .i64 o,.int .i64 n,.string (aB nm),.slice (some ⟨eb,off,none⟩) args.length sc] 27));have hf1:=Za (Zb hp (.cells #[.int .i64 3,.int .i64 o,.int .i64 n,.string (aB nm),.slice (some ⟨eb,off,none⟩) args.length sc] 27));have hl1:=Za (Loc.new hp [.int .i64 3,.int .i64 o,.int .i64 n,.string (aB nm),.slice (some ⟨eb,off,none⟩) args.length sc] 27);clear ih ht hp hs hw hf hn hwh hwa;go_enter Zh,Zi
 go_wp2_with fail
 refine(cx o _).mono ?_;rintro r w2 ⟨rfl,hb2⟩;have hf2:=Zf hb2 hp1.out.lt;have HP2:=Za (hp1.out.old hb2);have HF2:=Za (hf1.out.trans hf2);have HL2:=Za (hl1.out.step hf2);clear hb2 hf2 hp1 hf1 hl1;have c0:=HL2.out.cell 0 (by simp);have c1:=HL2.out.cell 1 (by simp);have c2:=HL2.out.cell 2 (by simp);have c3:=HL2.out.cell 3 (by simp);have c4:=HL2.out.cell 4 (by simp);simp only[Zd,Ze]at c0 c1 c2 c3 c4;go_wp2_with fail
 refine(lJ (aU o) _ _ b _ t w2 rfl HP2.out (HF.out.mono (by simp;try omega))).mono ?_;rintro r w3 ⟨rfl,hp3,hf3⟩;have HP3:=Za hp3;have HF3:=Za (HF2.out.trans hf3);have HL3:=Za (HL2.out.step hf3);clear hp3 hf3 c0 c1 c2 c3 c4;have c0:=HL3.out.cell 0 (by simp);have c1:=HL3.out.cell 1 (by simp);have c2:=HL3.out.cell 2 (by simp);have c3:=HL3.out.cell 3 (by simp);have c4:=HL3.out.cell 4 (by simp);simp only[Zd,Ze]at c0 c1 c2 c3 c4;obtain⟨eb',off',esa,heb,hDa,y0,y1,y2,y3,y4,hesa,hna⟩:=(HS.out.keep (HF3.out.keeps HP.out)).cellAt 0 (by omega);obtain⟨eaa,eca,rfl⟩:=hesa.shape;obtain⟨rfl,rfl⟩:eb=eb'∧off=off':=by cases heb;exact⟨rfl,rfl⟩
 have HESa:=Za hesa;have HNa:=Za hna;have IHXa:=Za (IH.out _ (bx (i:=0) (by omega)));have HWXa:=Za (HWA.out _ (bx (i:=0) (by omega)));clear heb hesa hna hDa;generalize hxa:bI args 0=xa at y0 y1 y2 y3 y4 HESa HNa IHXa HWXa;have HXa:=Za hxa;clear hxa;have za0:w3.cell? ⟨eb,off,none⟩=some (.int .i64 xa.kind):=by simpa using y0
 have za1:w3.cell? ⟨eb,off+1,none⟩=some (.int .i64 xa.op):=by simpa using y1
 have za2:w3.cell? ⟨eb,off+2,none⟩=some (.int .i64 xa.n):=by simpa using y2
 have za3:w3.cell? ⟨eb,off+3,none⟩=some (.string (aB xa.name)):=by simpa using y3
 have za4:w3.cell? ⟨eb,off+4,none⟩=some (.slice eaa xa.args.length eca):=by simpa using y4
 clear y0 y1 y2 y3 y4;go_wp2_with fail
 refine(oR xa IHXa.out 9 b _ t _ w3 hb (HT.out.fr HF3.out HP.out hb) HP3.out HESa.out HNa.out HWXa.out (by have q:=HF.out;rw[HXa.out]at q;exact q.mono (by simp;try omega))).mono ?_;rintro r w4 ⟨rfl,hp4,hf4⟩;have HP4:=Za hp4;have HF4:=Za (HF3.out.trans hf4);have HL4:=Za (HL3.out.step hf4);clear hp4 hf4 c0 c1 c2 c3 c4 za0 za1 za2 za3 za4;go_wp2_with fail
 go_end0
 exact⟨rfl,by rw[HXa.out];simpa using HP4.out,HF4.out⟩
theorem expr_4(o n:Int)(nm:Bs)(args:List Ex)(ih:∀x,x∈args→eN x):eN (.mk 4 o n nm args):=by
 intro b bs t s w hb ht hp hs hn hw hf;have hs:aJ (· <b) w args s:=hs;have hn:I64 n:=hn;have hwh:=(bS hw).1;have hwa:∀x,x∈args→bZ x=true:=(bS hw).2;obtain⟨sa,sc,rfl⟩:=hs.shape;have hlen:args.length=2:=by have q:=hwh;simp [bY,cB,Ex.kind,Ex.args]at q;omega
 have hl0:0<args.length:=by omega
 have hl1':1<args.length:=by omega
 obtain⟨eb,off,_,rfl,_⟩:=hs.cellAt 0 (by omega);clear hlen;have E:Hid (aK (.mk 4 o n nm args)=dC (bI args 0) (aP o)++([32]++(aU o++[32]))++dC (bI args 1) (aP o+1)):=by exact kX o n nm args hl1'
 rw[E.out]at hf ⊢;show Calls _ _ #[.pointer (some ⟨b,0,none⟩),.agg #[.int .i64 4,.int .i64 o,.int .i64 n,.string (aB nm),.slice (some ⟨eb,off,none⟩) args.length sc]] _ _
 have IH:=Za ih;have HT:=Za ht;have HP:=Za hp;have HN:=Za hn;have HF:=Za hf;have HS:=Za hs;have HWA:=Za hwa;have hp1:=Za (hp.alloc (.cells #[.int .i64 4,.int .i64 o,.int .i64 n,.string (aB nm),.slice (some ⟨eb,off,none⟩) args.length sc] 27));have hf1:=Za (Zb hp (.cells #[.int .i64 4,.int .i64 o,.int .i64 n,.string (aB nm),.slice (some ⟨eb,off,none⟩) args.length sc] 27));have hl1:=Za (Loc.new hp [.int .i64 4,.int .i64 o,.int .i64 n,.string (aB nm),.slice (some ⟨eb,off,none⟩) args.length sc] 27);clear ih ht hp hs hw hf hn hwh hwa;go_enter Zh,Zi
 go_wp2_with fail
 refine(cx o _).mono ?_;rintro r w2 ⟨rfl,hb2⟩;have hf2:=Zf hb2 hp1.out.lt;have HP2:=Za (hp1.out.old hb2);have HF2:=Za (hf1.out.trans hf2);have HL2:=Za (hl1.out.step hf2);clear hb2 hf2 hp1 hf1 hl1;have c0:=HL2.out.cell 0 (by simp);have c1:=HL2.out.cell 1 (by simp);have c2:=HL2.out.cell 2 (by simp);have c3:=HL2.out.cell 3 (by simp);have c4:=HL2.out.cell 4 (by simp);simp only[Zd,Ze]at c0 c1 c2 c3 c4;have lb:=oX o;go_wp2_with fail
 refine(gD o _).mono ?_;rintro r w3 ⟨rfl,hb3⟩;have hf3:=Zf hb3 HP2.out.lt;have HP3:=Za (HP2.out.old hb3);have HF3:=Za (HF2.out.trans hf3);have HL3:=Za (HL2.out.step hf3);clear hb3 hf3 c0 c1 c2 c3 c4;have c0:=HL3.out.cell 0 (by simp);have c1:=HL3.out.cell 1 (by simp);have c2:=HL3.out.cell 2 (by simp);have c3:=HL3.out.cell 3 (by simp);have c4:=HL3.out.cell 4 (by simp);simp only[Zd,Ze]at c0 c1 c2 c3 c4;obtain⟨eb',off',esa,heb,hDa,y0,y1,y2,y3,y4,hesa,hna⟩:=(HS.out.keep (HF3.out.keeps HP.out)).cellAt 0 (by omega);obtain⟨eaa,eca,rfl⟩:=hesa.shape;obtain⟨rfl,rfl⟩:eb=eb'∧off=off':=by cases heb;exact⟨rfl,rfl⟩
 have HESa:=Za hesa;have HNa:=Za hna;have IHXa:=Za (IH.out _ (bx (i:=0) (by omega)));have HWXa:=Za (HWA.out _ (bx (i:=0) (by omega)));clear heb hesa hna hDa;generalize hxa:bI args 0=xa at y0 y1 y2 y3 y4 HESa HNa IHXa HWXa;have HXa:=Za hxa;clear hxa;have za0:w3.cell? ⟨eb,off,none⟩=some (.int .i64 xa.kind):=by simpa using y0
 have za1:w3.cell? ⟨eb,off+1,none⟩=some (.int .i64 xa.op):=by simpa using y1
 have za2:w3.cell? ⟨eb,off+2,none⟩=some (.int .i64 xa.n):=by simpa using y2
 have za3:w3.cell? ⟨eb,off+3,none⟩=some (.string (aB xa.name)):=by simpa using y3
 have za4:w3.cell? ⟨eb,off+4,none⟩=some (.slice eaa xa.args.length eca):=by simpa using y4
 clear y0 y1 y2 y3 y4;go_wp2_with fail
 refine(oR xa IHXa.out (aP o) b _ t _ w3 hb (HT.out.fr HF3.out HP.out hb) HP3.out HESa.out HNa.out HWXa.out (by have q:=HF.out;rw[HXa.out]at q;exact q.mono (by simp;try omega))).mono ?_;rintro r w4 ⟨rfl,hp4,hf4⟩;have HP4:=Za hp4;have HF4:=Za (HF3.out.trans hf4);have HL4:=Za (HL3.out.step hf4);clear hp4 hf4 c0 c1 c2 c3 c4 za0 za1 za2 za3 za4;go_wp2_with fail
 refine(put3 [32] (aU o) [32] _ _ b _ t w4 rfl HP4.out (by have q:=HF.out;rw[HXa.out]at q;exact q.mono (by simp;try omega))).mono ?_;rintro r w5 ⟨rfl,hp5,hf5⟩;have HP5:=Za hp5;have HF5:=Za (HF4.out.trans hf5);have HL5:=Za (HL4.out.step hf5);clear hp5 hf5;have c0:=HL5.out.cell 0 (by simp);have c1:=HL5.out.cell 1 (by simp);have c2:=HL5.out.cell 2 (by simp);have c3:=HL5.out.cell 3 (by simp);have c4:=HL5.out.cell 4 (by simp);simp only[Zd,Ze]at c0 c1 c2 c3 c4;obtain⟨eb',off',esc,heb,hDc,y0,y1,y2,y3,y4,hesc,hnc⟩:=(HS.out.keep (HF5.out.keeps HP.out)).cellAt 1 (by omega);obtain⟨eac,ecc,rfl⟩:=hesc.shape;obtain⟨rfl,rfl⟩:eb=eb'∧off=off':=by cases heb;exact⟨rfl,rfl⟩
 have HESc:=Za hesc;have HNc:=Za hnc;have IHXc:=Za (IH.out _ (bx (i:=1) (by omega)));have HWXc:=Za (HWA.out _ (bx (i:=1) (by omega)));clear heb hesc hnc hDc;generalize hxc:bI args 1=xc at y0 y1 y2 y3 y4 HESc HNc IHXc HWXc;have HXc:=Za hxc;clear hxc;have zc0:w5.cell? ⟨eb,off+5,none⟩=some (.int .i64 xc.kind):=by simpa using y0
 have zc1:w5.cell? ⟨eb,off+5+1,none⟩=some (.int .i64 xc.op):=by simpa using y1
 have zc2:w5.cell? ⟨eb,off+5+2,none⟩=some (.int .i64 xc.n):=by simpa using y2
 have zc3:w5.cell? ⟨eb,off+5+3,none⟩=some (.string (aB xc.name)):=by simpa using y3
 have zc4:w5.cell? ⟨eb,off+5+4,none⟩=some (.slice eac xc.args.length ecc):=by simpa using y4
 clear y0 y1 y2 y3 y4;go_wp2_with fail
 refine(oR xc IHXc.out (aP o+1) b _ t _ w5 hb (HT.out.fr HF5.out HP.out hb) HP5.out HESc.out HNc.out HWXc.out (by have q:=HF.out;rw[HXa.out,HXc.out]at q;exact q.mono (by simp;try omega))).mono ?_;rintro r w6 ⟨rfl,hp6,hf6⟩;have HP6:=Za hp6;have HF6:=Za (HF5.out.trans hf6);have HL6:=Za (HL5.out.step hf6);clear hp6 hf6 c0 c1 c2 c3 c4 zc0 zc1 zc2 zc3 zc4;go_wp2_with fail
 go_end0
 exact⟨rfl,by rw[HXa.out,HXc.out];simpa using HP6.out,HF6.out⟩
theorem expr_5(o n:Int)(nm:Bs)(args:List Ex)(ih:∀x,x∈args→eN x):eN (.mk 5 o n nm args):=by
 intro b bs t s w hb ht hp hs hn hw hf;have hs:aJ (· <b) w args s:=hs;have hn:I64 n:=hn;have hwh:=(bS hw).1;have hwa:∀x,x∈args→bZ x=true:=(bS hw).2;obtain⟨sa,sc,rfl⟩:=hs.shape;have E:Hid (aK (.mk 5 o n nm args)=nm++[40]++au (args.map aK)++[41]):=by exact kh o n nm args
 rw[E.out]at hf ⊢;show Calls _ _ #[.pointer (some ⟨b,0,none⟩),.agg #[.int .i64 5,.int .i64 o,.int .i64 n,.string (aB nm),.slice sa args.length sc]] _ _
 have IH:=Za ih;have HT:=Za ht;have HP:=Za hp;have HN:=Za hn;have HF:=Za hf;have HS:=Za hs;have HWA:=Za hwa;have hp1:=Za (hp.alloc (.cells #[.int .i64 5,.int .i64 o,.int .i64 n,.string (aB nm),.slice sa args.length sc] 27));have hf1:=Za (Zb hp (.cells #[.int .i64 5,.int .i64 o,.int .i64 n,.string (aB nm),.slice sa args.length sc] 27));have hl1:=Za (Loc.new hp [.int .i64 5,.int .i64 o,.int .i64 n,.string (aB nm),.slice sa args.length sc] 27);clear ih ht hp hs hw hf hn hwh hwa;go_enter Zh,Zi
 go_wp2_with fail
 refine(cx o _).mono ?_;rintro r w2 ⟨rfl,hb2⟩;have hf2:=Zf hb2 hp1.out.lt;have HP2:=Za (hp1.out.old hb2);have HF2:=Za (hf1.out.trans hf2);have HL2:=Za (hl1.out.step hf2);clear hb2 hf2 hp1 hf1 hl1;have c0:=HL2.out.cell 0 (by simp);have c1:=HL2.out.cell 1 (by simp);have c2:=HL2.out.cell 2 (by simp);have c3:=HL2.out.cell 3 (by simp);have c4:=HL2.out.cell 4 (by simp);simp only[Zd,Ze]at c0 c1 c2 c3 c4;go_wp2_with fail
 refine(put2 nm [40] _ _ b _ t w2 rfl HP2.out (HF.out.mono (by simp;try omega))).mono ?_;rintro r w3 ⟨rfl,hp3,hf3⟩;have HP3:=Za hp3;have HF3:=Za (HF2.out.trans hf3);have HL3:=Za (HL2.out.step hf3);clear hp3 hf3 c0 c1 c2 c3 c4;have c0:=HL3.out.cell 0 (by simp);have c1:=HL3.out.cell 1 (by simp);have c2:=HL3.out.cell 2 (by simp);have c3:=HL3.out.cell 3 (by simp);have c4:=HL3.out.cell 4 (by simp);simp only[Zd,Ze]at c0 c1 c2 c3 c4;go_wp2_with fail
 refine(yO args IH.out b _ t _ w3 hb (HT.out.fr HF3.out HP.out hb) HP3.out (HS.out.keep (HF3.out.keeps HP.out)) HWA.out (HF.out.mono (by simp;try omega))).mono ?_;rintro r w4 ⟨rfl,hp4,hf4⟩;have HP4:=Za hp4;have HF4:=Za (HF3.out.trans hf4);have HL4:=Za (HL3.out.step hf4);clear hp4 hf4 c0 c1 c2 c3 c4;go_wp2_with fail
 refine(lJ [41] _ _ b _ t w4 rfl HP4.out (HF.out.mono (by simp;try omega))).mono ?_;rintro r w5 ⟨rfl,hp5,hf5⟩;have HP5:=Za hp5;have HF5:=Za (HF4.out.trans hf5);have HL5:=Za (HL4.out.step hf5);clear hp5 hf5;go_wp2_with fail
 go_end0
 exact⟨rfl,by simpa using HP5.out,HF5.out⟩
theorem expr_6(o n:Int)(nm:Bs)(args:List Ex)(ih:∀x,x∈args→eN x):eN (.mk 6 o n nm args):=by
 intro b bs t s w hb ht hp hs hn hw hf;have hs:aJ (· <b) w args s:=hs;have hn:I64 n:=hn;have hwh:=(bS hw).1;have hwa:∀x,x∈args→bZ x=true:=(bS hw).2;obtain⟨sa,sc,rfl⟩:=hs.shape;have hlen:args.length=1:=by have q:=hwh;simp [bY,cB,Ex.kind,Ex.args]at q;omega
 have hl0:0<args.length:=by omega
 obtain⟨eb,off,_,rfl,_⟩:=hs.cellAt 0 (by omega);clear hlen;have E:Hid (aK (.mk 6 o n nm args)=nm++[91]++aK (bI args 0)++[93]):=by exact kt o n nm args hl0
 rw[E.out]at hf ⊢;show Calls _ _ #[.pointer (some ⟨b,0,none⟩),.agg #[.int .i64 6,.int .i64 o,.int .i64 n,.string (aB nm),.slice (some ⟨eb,off,none⟩) args.length sc]] _ _
 have IH:=Za ih;have HT:=Za ht;have HP:=Za hp;have HN:=Za hn;have HF:=Za hf;have HS:=Za hs;have HWA:=Za hwa;have hp1:=Za (hp.alloc (.cells #[.int .i64 6,.int .i64 o,.int .i64 n,.string (aB nm),.slice (some ⟨eb,off,none⟩) args.length sc] 27));have hf1:=Za (Zb hp (.cells #[.int .i64 6,.int .i64 o,.int .i64 n,.string (aB nm),.slice (some ⟨eb,off,none⟩) args.length sc] 27));have hl1:=Za (Loc.new hp [.int .i64 6,.int .i64 o,.int .i64 n,.string (aB nm),.slice (some ⟨eb,off,none⟩) args.length sc] 27);clear ih ht hp hs hw hf hn hwh hwa;go_enter Zh,Zi
 go_wp2_with fail
 refine(cx o _).mono ?_;rintro r w2 ⟨rfl,hb2⟩;have hf2:=Zf hb2 hp1.out.lt;have HP2:=Za (hp1.out.old hb2);have HF2:=Za (hf1.out.trans hf2);have HL2:=Za (hl1.out.step hf2);clear hb2 hf2 hp1 hf1 hl1;have c0:=HL2.out.cell 0 (by simp);have c1:=HL2.out.cell 1 (by simp);have c2:=HL2.out.cell 2 (by simp);have c3:=HL2.out.cell 3 (by simp);have c4:=HL2.out.cell 4 (by simp);simp only[Zd,Ze]at c0 c1 c2 c3 c4;go_wp2_with fail
 refine(put2 nm [91] _ _ b _ t w2 rfl HP2.out (HF.out.mono (by simp;try omega))).mono ?_;rintro r w3 ⟨rfl,hp3,hf3⟩;have HP3:=Za hp3;have HF3:=Za (HF2.out.trans hf3);have HL3:=Za (HL2.out.step hf3);clear hp3 hf3 c0 c1 c2 c3 c4;have c0:=HL3.out.cell 0 (by simp);have c1:=HL3.out.cell 1 (by simp);have c2:=HL3.out.cell 2 (by simp);have c3:=HL3.out.cell 3 (by simp);have c4:=HL3.out.cell 4 (by simp);simp only[Zd,Ze]at c0 c1 c2 c3 c4;obtain⟨eb',off',esa,heb,hDa,y0,y1,y2,y3,y4,hesa,hna⟩:=(HS.out.keep (HF3.out.keeps HP.out)).cellAt 0 (by omega);obtain⟨eaa,eca,rfl⟩:=hesa.shape;obtain⟨rfl,rfl⟩:eb=eb'∧off=off':=by cases heb;exact⟨rfl,rfl⟩
 have HESa:=Za hesa;have HNa:=Za hna;have IHXa:=Za (IH.out _ (bx (i:=0) (by omega)));have HWXa:=Za (HWA.out _ (bx (i:=0) (by omega)));clear heb hesa hna hDa;generalize hxa:bI args 0=xa at y0 y1 y2 y3 y4 HESa HNa IHXa HWXa;have HXa:=Za hxa;clear hxa;have za0:w3.cell? ⟨eb,off,none⟩=some (.int .i64 xa.kind):=by simpa using y0
 have za1:w3.cell? ⟨eb,off+1,none⟩=some (.int .i64 xa.op):=by simpa using y1
 have za2:w3.cell? ⟨eb,off+2,none⟩=some (.int .i64 xa.n):=by simpa using y2
 have za3:w3.cell? ⟨eb,off+3,none⟩=some (.string (aB xa.name)):=by simpa using y3
 have za4:w3.cell? ⟨eb,off+4,none⟩=some (.slice eaa xa.args.length eca):=by simpa using y4
 clear y0 y1 y2 y3 y4;go_wp2_with fail
 refine(IHXa.out b _ t _ w3 hb (HT.out.fr HF3.out HP.out hb) HP3.out HESa.out HNa.out HWXa.out (by have q:=HF.out;rw[HXa.out]at q;exact q.mono (by simp;try omega))).mono ?_;rintro r w4 ⟨rfl,hp4,hf4⟩;have HP4:=Za hp4;have HF4:=Za (HF3.out.trans hf4);have HL4:=Za (HL3.out.step hf4);clear hp4 hf4 c0 c1 c2 c3 c4 za0 za1 za2 za3 za4;go_wp2_with fail
 refine(lJ [93] _ _ b _ t w4 rfl HP4.out (by have q:=HF.out;rw[HXa.out]at q;exact q.mono (by simp;try omega))).mono ?_;rintro r w5 ⟨rfl,hp5,hf5⟩;have HP5:=Za hp5;have HF5:=Za (HF4.out.trans hf5);have HL5:=Za (HL4.out.step hf5);clear hp5 hf5;go_wp2_with fail
 go_end0
 exact⟨rfl,by rw[HXa.out];simpa using HP5.out,HF5.out⟩
theorem vz(e:Ex)(ih:∀x,x∈e.args→eN x):eN e:=by
 intro b bs t s w hb ht hp hs hn hw hf;have hk:=kv (bS hw).1;obtain⟨k,o,n,nm,args⟩:=e;simp only[Ex.kind]at hk;rcases hk with rfl|rfl|rfl|rfl|rfl|rfl|rfl
 ·exact expr_1 o n nm args ih b bs t s w hb ht hp hs hn hw hf
 ·exact expr_2 o n nm args ih b bs t s w hb ht hp hs hn hw hf
 ·exact expr_3 o n nm args ih b bs t s w hb ht hp hs hn hw hf
 ·exact expr_4 o n nm args ih b bs t s w hb ht hp hs hn hw hf
 ·exact expr_5 o n nm args ih b bs t s w hb ht hp hs hn hw hf
 ·exact expr_6 o n nm args ih b bs t s w hb ht hp hs hn hw hf
 ·exact expr_7 o n nm args ih b bs t s w hb ht hp hs hn hw hf
theorem nP:∀(n:Nat) (e:Ex),SizeOf.sizeOf e≤n→eN e
 |0,e,h=>by cases e;simp at h
 |n+1,e,h=>vz e fun x hx=>nP n x (by have:=Ex.size_lt hx;omega)
theorem pA:Tryz.prog.cellsOf 5=1:=by kernel_rfl
theorem nR(b:Nat)(bs:Bs)(t:Int)(w:World)(hp:bJ w b bs t)(h0:bs≠[]):
  Calls Zc 33 #[.pointer (some ⟨b,0,none⟩)] w fun e w'=>e= .returned (.string (aB bs))∧Below b w w':=by
 obtain⟨p,v,hbk,hq,hown⟩:=hp;have hl0:bs.length≠0:=by simpa using h0
 obtain⟨g,cap,cur,rfl,hbg,hg,hnc,hcm,hcs,htake⟩:∃g cap cur,v= .slice (some ⟨g,0,none⟩) bs.length cap∧b+1≤g∧w.heap[g]? =some (.cells cur 5 (0,0))∧bs.length≤cap∧cap≤maxLen∧cur.size=cap*1∧cur.toList.take (bs.length*1)=Lib.byteCells bs:=by
  rcases hown.2 with⟨_,hz⟩|⟨g,cap,cur,hv,r⟩
  ·exact absurd hz hl0
  ·exact⟨g,cap,cur,hv,r⟩
 have c1:w.drew.cell? ⟨b,1,none⟩=some (.slice (some ⟨g,0,none⟩) bs.length cap):=by
  have:w.drew.heap[b]? =some (.cells #[p,.slice (some ⟨g,0,none⟩) bs.length cap,.int .i64 t] 81 (0,0)):=hbk;rw[Lib.cell_of_heap this];rfl
 have hSD:(Builtin.unsafeSliceData_ #[77] 125 #[.slice (some ⟨g,0,none⟩) bs.length cap]).run Zc w.drew= .ok (.pointer (some ⟨g,0,none⟩)) w.drew:=
  Lib.run_unsafeSliceData_row _ _ _ _ _ _ (by omega)
 have hUS:(Builtin.unsafeString_ #[125,3] 9 #[.pointer (some ⟨g,0,none⟩),.int .i64 bs.length]).run Zc w.drew= .ok (.string (aB bs)) (w.drew.freeze ⟨g,0,none⟩ bs.length):=by
  refine Lib.run_unsafeString_row w.drew 125 3 9 5 Tryz.underlying125 pA g cur.size (by have hg':w.drew.heap[g]? =some (.cells cur 5 (0,0)):=hg;simp [World.shape?,hg']) bs h0 (by omega) (by unfold maxLen at hcm;omega) ?_;intro j x hx;have:=hown.cells (g:=g) rfl j (.int .u8 x.toNat) (by simp [Lib.byteCells,hx]);exact this
 have HG:Hid (b≤g):=by show _≤_;omega
 clear hbk hown hg hcs htake hcm hnc h0 hl0 hbg hq;have mixed:Tryz.prog.follows .mixedOrders=true:=by kernel_rfl
 go_enter Tryz.func33,Tryz.ntmps33
 go_wp2
 go_region_o
 all_goals(go_wp2;go_ret;exact⟨rfl,Lib.below_freeze (Below.drew (Below.refl b w)) (p:=⟨g,0,none⟩) HG.out _⟩)
theorem bJ.new(w:World):bJ (w.alloc (.cells #[.pointer none,.slice none 0 0,.int .i64 0] 81)) w.heap.size [] 0:=by
 refine⟨.pointer none,.slice none 0 0,Array.getElem?_push_size,.inl rfl,rfl,.inl ⟨rfl,rfl⟩⟩
theorem itoa_ne(n:Int):Lib.itoa n≠[]:=by
 unfold Lib.itoa;split
 ·simp
 ·intro h
  have h1:=Lib.decDigits_length n.toNat;rw[h]at h1;have:=Lib.nDigits_pos n.toNat;simp at h1;omega
theorem wL {e:Ex}(h:bZ e=true):aK e≠[]:=by
 have hk:=kv (bS h).1;have hw:=(bS h).1;obtain⟨k,o,n,nm,args⟩:=e;simp only[Ex.kind]at hk;rcases hk with rfl|rfl|rfl|rfl|rfl|rfl|rfl
 ·rw[kV];exact itoa_ne n
 ·rw[lM];intro h;subst h;simp [bY,eG,Ex.kind,Ex.name,aY]at hw
 ·have hl:0<args.length:=by simp [bY,cB,Ex.kind,Ex.args]at hw;omega
  rw[kW o n nm args hl];have h0:eG (.mk 3 o n nm args)=true:=by unfold bY at hw;simp only[Zq]at hw;exact hw.1.1.1.1
  have h1:decide (o=17∨o=18∨o=19)=true:=h0;have h2:o=17∨o=18∨o=19:=of_decide_eq_true h1;rcases h2 with rfl|rfl|rfl<;>simp [aU]
 ·have hl:1<args.length:=by simp [bY,cB,Ex.kind,Ex.args]at hw;omega
  rw[kX o n nm args hl];simp
 ·rw[kh];simp
 ·have hl:0<args.length:=by simp [bY,cB,Ex.kind,Ex.args]at hw;omega
  rw[kt o n nm args hl];simp
 ·rw[lG];simp
theorem oL(e:Ex)(s:Value)(w:World)(hb:3<w.heap.size)(ht:dL w)(hs:aJ (· <w.heap.size) w e.args s)(hn:I64 e.n)(hr:cR e=true)(hf:br (aK e).length):
  Calls Zc 16 #[exV e s] w fun r w'=>r= .returned (.tuple #[.string (aB (aK e)),.int .i64 0])∧Below w.heap.size w w':=by
 obtain⟨sa,sc,rfl⟩:=hs.shape;have hw:bZ e=true:=by unfold cR at hr;exact((Zq _ _).mp hr).2
 have hb1:Below w.heap.size w (w.alloc (.cells #[.int .i64 e.kind,.int .i64 e.op,.int .i64 e.n,.string (aB e.name),.slice sa e.args.length sc] 27)):=bA;have HB1:=Za hb1;have HT:=Za ht;have HS:=Za hs;have HN:=Za hn;have HR:=Za hr;have HF:=Za hf;have HW:=Za hw;have HG:=Za hb;clear hb1 ht hs hn hr hf hw hb;go_enter Tryz.func16,Tryz.ntmps16
 go_wp2_with fail
 refine(iN e (· <w.heap.size) _ _ (HS.out.old HB1.out)).mono ?_;rintro r w1 ⟨rfl,hb1⟩;rw[HR.out];have hz:w.heap.size<w1.heap.size:=by have:=hb1.size;simp at this;omega
 have HB2:=Za (HB1.out.trans (hb1.mono (by simp)));have c0:w1.cell? ⟨w.heap.size,0,none⟩=some (.int .i64 e.kind):=aE hb1 (by simp);have c1:w1.cell? ⟨w.heap.size,1,none⟩=some (.int .i64 e.op):=aE hb1 (by simp);have c2:w1.cell? ⟨w.heap.size,2,none⟩=some (.int .i64 e.n):=aE hb1 (by simp);have c3:w1.cell? ⟨w.heap.size,3,none⟩=some (.string (aB e.name)):=aE hb1 (by simp);have c4:w1.cell? ⟨w.heap.size,4,none⟩=some (.slice sa e.args.length sc):=aE hb1 (by simp);clear hb1;go_wp2_with fail
 have HB3:Hid (Below w.heap.size w (w1.alloc (.cells #[.pointer none,.slice none 0 0,.int .i64 0] 81))):=HB2.out.alloc (by omega) _;have HK:Hid (aJ (· <w1.heap.size) (w1.alloc (.cells #[.pointer none,.slice none 0 0,.int .i64 0] 81)) e.args (.slice sa e.args.length sc)):=(HS.out.old HB3.out).mono (fun b h=>Nat.lt_trans h hz);refine(nP _ e (Nat.le_refl _) w1.heap.size [] 0 _ _ (Nat.lt_trans HG.out hz) (HT.out.keep (HB3.out.block _ HG.out)) (bJ.new w1) HK.out HN.out HW.out (by simpa using HF.out)).mono ?_;rintro r w2 ⟨rfl,hp2,hf2⟩;have HP2:=Za hp2;have HB4:=Za (HB3.out.trans ((hf2.below (bJ.new w1)).mono (Nat.le_of_lt hz)));clear hp2 hf2 c0 c1 c2 c3 c4;go_wp2_with fail
 refine(nR _ _ _ _ HP2.out (by simpa using wL HW.out)).mono ?_;rintro r w3 ⟨rfl,hb3⟩;have HB5:=Za (HB4.out.trans (hb3.mono (Nat.le_of_lt hz)));clear hb3;go_wp2_with fail
 go_ret2
 exact⟨by simp,HB5.out⟩
inductive WIt where
 |s (x:Bs)
 |e (x:Ex) (v:Value)
def WIt.val:WIt→Value
 | .s x=> .iface 9 (.string (aB x))
 | .e x v=> .iface 27 (exV x v)
def WIt.text:WIt→Bs
 | .s x=>x
 | .e x _=>aK x
def WIt.ok(b:Nat)(w:World):WIt→Prop
 | .s _=>True
 | .e x v=>aJ (· <b) w x.args v∧I64 x.n∧bZ x=true
def sQ:WIt:= .s []
theorem WIt.ok.keep {b:Nat}{w w':World}(hk:cd (· <b) w w'){x:WIt}(h:x.ok b w):x.ok b w':=by
 cases x with
 |s x=>trivial
 |e x v=>exact⟨h.1.keep hk,h.2⟩
def dv(l:List WIt):Bs:=l.flatMap WIt.text
@[go_sem] theorem asExEx (v:Value) (w:World):(Instr.typeAssert (.iface 27 v) 20 27 true).run Zc w= .ok (.tuple #[v,.bool true]) w:=by kernel_rfl
@[go_sem] theorem asStEx (v:Value) (w:World):(Instr.typeAssert (.iface 9 v) 20 27 true).run Zc w= .ok (.tuple #[.agg #[.int .i64 0,.int .i64 0,.int .i64 0,.string ByteArray.empty,.slice none 0 0],.bool false]) w:=by kernel_rfl
@[go_sem] theorem asStSt (v:Value) (w:World):(Instr.typeAssert (.iface 9 v) 20 9 false).run Zc w= .ok v w:=by kernel_rfl
theorem sU(l:List WIt)(k:Nat)(h:k<l.length):dv (l.take (k+1))=dv (l.take k)++(l.getD k sQ).text:=by
 unfold dv;rw[List.take_succ_eq_append_getElem h,List.flatMap_append];simp [Zr h]
theorem nF(l:List WIt)(k:Nat):(dv (l.take k)).length≤(dv l).length:=by
 have e:dv l=dv (l.take k)++dv (l.drop k):=by unfold dv;rw[←List.flatMap_append,List.take_append_drop]
 rw[e];simp
theorem wl(its:List WIt)(X cap b:Nat)(bs:Bs)(t:Int)(w:World)(hb:3<b)(ht:dL w)(hp:bJ w b bs t)(hl:Loc w b X (its.map WIt.val))(ho:∀x,x∈its→x.ok b w)(hf:br (bs.length+(dv its).length))(hn:its.length≤1000):
  Calls Zc 77 #[.pointer (some ⟨b,0,none⟩),.slice (some ⟨X,0,none⟩) its.length cap] w (f9 w b bs t (dv its)):=by
 have HP:=Za hp;have HL:=Za hl;have HF:=Za hf;have HO:=Za ho;have HT:=Za ht;clear hp hl hf ho ht;go_enter Tryz.func77,Tryz.ntmps77
 go_wp2_with fail
 go_loopw [5,6,7,10] (fun _ _ _ s10 wr=> ∃k:Nat,k≤its.length∧s10= .int .i64 k∧bJ wr b (bs++dv (its.take k)) t∧PFr b w wr) (fun _ _ _ s10 _=>its.length - (intOf s10).toNat)
 case atStart=>exact⟨0,Nat.zero_le _,rfl,by simpa [dv]using HP.out,PFr.refl _ _⟩
 case round=>
  obtain⟨k,hk,rfl,hp,hfr⟩:=hrel;have HPK:=Za hp;have HFR:=Za hfr;have hbl:=hp.lt;have HLK:=Za (HL.out.step hfr);clear hp hfr
  by_cases hlt:k<its.length
  ·have c:=HLK.out.cell k (by simpa using hlt)
   have hmem:its.getD k sQ∈its:=by rw[List.getD_eq_getElem?_getD,Zr hlt];exact List.getElem_mem hlt
   have ec:(its.map WIt.val)[k]'(by simpa using hlt)=(its.getD k sQ).val:=by simp [Zr hlt]
   rw[ec]at c;have hsp:=Za (sU its k hlt);have hfit:Hid (br ((bs++dv (its.take k)).length+((its.getD k sQ).text).length)):=by
    refine HF.out.mono ?_;have e:=nF its (k+1);rw[hsp.out]at e;simp at e;simp;omega
   have HOK:=Za (HO.out _ hmem);clear ec hmem;generalize its.getD k sQ=x at c hsp hfit HOK
   cases x with
   |s x=>
    simp only[WIt.val,WIt.text]at c hsp hfit;go_wp2_with fail
    refine(lJ x _ _ b _ t _ (by simp) (HPK.out.alloc _) hfit.out).mono ?_;rintro r w3 ⟨rfl,hp3,hf3⟩;have HP3:=Za hp3;have HF3:=Za hf3;clear hp3 hf3;go_wp2_with fail
    go_roundw
    case rel=>exact⟨k+1,by omega,by go_num,by rw[hsp.out,←Zg];exact HP3.out,HFR.out.trans ((Zb HPK.out _).trans HF3.out)⟩
    case measure=>simp [intOf];omega
   |e e v=>
    obtain⟨hes,hn,hw⟩:=HOK.out;obtain⟨ea,ec,rfl⟩:=hes.shape;have HES:=Za hes;have HN:=Za hn;have HW:=Za hw;clear hes hn hw HOK;simp only[WIt.val,WIt.text,exV]at c hsp hfit;go_wp2_with fail
    refine(nP _ e (Nat.le_refl _) b _ t _ _ hb (HT.out.fr (HFR.out.trans (Zb HPK.out _)) HP.out hb) (HPK.out.alloc _) (HES.out.keep ((HFR.out.trans (Zb HPK.out _)).keeps HP.out)) HN.out HW.out hfit.out).mono ?_;rintro r w3 ⟨rfl,hp3,hf3⟩;have HP3:=Za hp3;have HF3:=Za hf3;clear hp3 hf3;go_wp2_with fail
    go_roundw
    case rel=>exact⟨k+1,by omega,by go_num,by rw[hsp.out,←Zg];exact HP3.out,HFR.out.trans ((Zb HPK.out _).trans HF3.out)⟩
    case measure=>simp [intOf];omega
  ·go_wp2_with fail
   go_end0
   exact⟨rfl,by have e:its.take k=its:=List.take_of_length_le (by omega);have q:=HPK.out;rwa[e]at q,HFR.out⟩
theorem sR(c:Nat):Lib.repeatL [9] c=gC c:=by
 induction c with
 |zero=>rfl
 |succ n ih=>simp [Lib.repeatL,gC,List.replicate_succ]at*;try exact ih
theorem bJ.tab {w:World}{b:Nat}{bs:Bs}{t:Int}(h:bJ w b bs t):w.cell? ⟨b,2,none⟩=some (.int .i64 t):=by
 obtain⟨p,v,hb,_⟩:=h;rw[Lib.cell_of_heap hb];rfl
theorem yh(its:List WIt)(X cap b:Nat)(bs:Bs)(t:Nat)(w:World)(hb:3<b)(ht:dL w)(hp:bJ w b bs t)(hl:Loc w b X (its.map WIt.val))(ho:∀x,x∈its→x.ok b w)
  (htt:t≤1000000) (hf:br (bs.length+(gC t++dv its++[10]).length)) (hn:its.length≤1000):
  Calls Zc 34 #[.pointer (some ⟨b,0,none⟩),.slice (some ⟨X,0,none⟩) its.length cap] w (f9 w b bs t (gC t++dv its++[10])):=by
 have c2:=hp.tab;have HP:=Za hp;have HL:=Za hl;have HF:=Za hf;have HO:=Za ho;have HT:=Za ht;clear hp hl hf ho ht;go_enter Tryz.func34,Tryz.ntmps34
 go_wp2_with fail
 refine(Tryz.strings_Repeat _ t _ (by omega) (by show 1*t≤_;omega)).mono ?_;rintro r w1 ⟨rfl,hb1⟩;have e1:((ByteArray.mk #[9]).data.toList)=[9]:=rfl;rw[e1,sR];have HP1:=Za (HP.out.old hb1);have HF1:=Za (Zf hb1 HP.out.lt);clear hb1 c2 e1;go_wp2_with fail
 refine(lJ (gC t) _ _ b _ t w1 rfl HP1.out (HF.out.mono (by simp))).mono ?_;rintro r w2 ⟨rfl,hp2,hf2⟩;have HP2:=Za hp2;have HF2:=Za (HF1.out.trans hf2);clear hp2 hf2;go_wp2_with fail
 refine(wl its X cap b _ t w2 hb (HT.out.fr HF2.out HP.out hb) HP2.out (HL.out.step HF2.out) (fun x hx=>(HO.out x hx).keep (HF2.out.keeps HP.out)) (HF.out.mono (by simp;omega)) hn).mono ?_;rintro r w3 ⟨rfl,hp3,hf3⟩;have HP3:=Za hp3;have HF3:=Za (HF2.out.trans hf3);clear hp3 hf3;go_wp2_with fail
 refine(lJ [10] _ _ b _ t w3 rfl HP3.out (HF.out.mono (by simp;omega))).mono ?_;rintro r w4 ⟨rfl,hp4,hf4⟩;have HP4:=Za hp4;have HF4:=Za (HF3.out.trans hf4);clear hp4 hf4;go_wp2_with fail
 go_end0
 exact⟨rfl,by simpa using HP4.out,HF4.out⟩
def sB(t:Nat)(its:List WIt):Bs:=ln t (its.map WIt.text)
theorem line_at(its:List WIt)(T:TypeId)(X b:Nat)(bs:Bs)(t:Nat)(w:World)(hX:X=w.heap.size)(hb:3<b)(ht:dL w)(hp:bJ w b bs t)(ho:∀x,x∈its→x.ok b w)
  (htt:t≤1000000) (hf:br (bs.length+(sB t its).length)) (hn:its.length≤1000):
  Calls Zc 34 #[.pointer (some ⟨b,0,none⟩),.slice (some ⟨X,0,none⟩) its.length its.length] (w.alloc (.cells (its.map WIt.val).toArray T)) (f9 w b bs t (sB t its)):=by
 subst hX;refine(yh its w.heap.size its.length b bs t _ hb (ht.fr (Zb hp _) hp hb) (hp.alloc _) (Loc.new hp (its.map WIt.val) T) (fun x hx=>(ho x hx).keep ((Zb hp _).keeps hp)) htt hf hn).mono ?_;rintro r w' ⟨rfl,h2,h3⟩;exact⟨rfl,h2,(Zb hp _).trans h3⟩
theorem br.left {n:Nat}{a c:Bs}(h:br (n+(a++c).length)):br (n+a.length):=h.mono (by simp only[List.length_append];omega)
theorem br.right {bs a c:Bs}(h:br (bs.length+(a++c).length)):br ((bs++a).length+c.length):=h.mono (by simp only[List.length_append];omega)
def eX(b:Nat)(w:World)(l:List WIt):Prop:= ∀x,x∈l→x.ok b w
theorem eX.nil {b:Nat}{w:World}:eX b w []:=fun _ h=>by cases h
theorem eX.s {b:Nat}{w:World}{x:Bs}{l:List WIt}(h:eX b w l):eX b w (.s x::l):=fun y hy=>by
 rcases List.mem_cons.1 hy with rfl|hy
 ·trivial
 ·exact h y hy
theorem eX.e {b:Nat}{w:World}{x:Ex}{v:Value}{l:List WIt}(hx:aJ (· <b) w x.args v)(hn:I64 x.n)(hw:bZ x=true)(h:eX b w l):eX b w (.e x v::l):=fun y hy=>by
 rcases List.mem_cons.1 hy with rfl|hy
 ·exact⟨hx,hn,hw⟩
 ·exact h y hy
theorem dW(its:List WIt)(T:TypeId)(X b:Nat)(bs:Bs)(t:Nat)(w:World)(hX:X=w.heap.size)(hb:3<b)(ht:dL w)(hp:bJ w b bs t)(ho:eX b w its)
  (htt:t≤1000000) (hf:br (bs.length+(ln t (its.map WIt.text)).length)) (hn:its.length≤1000):
  Calls Zc 34 #[.pointer (some ⟨b,0,none⟩),.slice (some ⟨X,0,none⟩) its.length its.length] (w.alloc (.cells (its.map WIt.val).toArray T)) (f9 w b bs t (ln t (its.map WIt.text))):=
 line_at its T X b bs t w hX hb ht hp ho htt hf hn
theorem aJ.at0 {D:Nat→Prop}{w:World}{l:List Ex}{a:Option Addr}{n cap:Nat}(h:aJ D w l (.slice a n cap))(hl:0<l.length):∃b off s,a=some ⟨b,off,none⟩∧D b∧b<w.heap.size∧
  w.cell? ⟨b,off,none⟩=some (.int .i64 (bI l 0).kind)∧w.cell? ⟨b,off+1,none⟩=some (.int .i64 (bI l 0).op)∧w.cell? ⟨b,off+2,none⟩=some (.int .i64 (bI l 0).n)∧
  w.cell? ⟨b,off+3,none⟩=some (.string (aB (bI l 0).name))∧w.cell? ⟨b,off+4,none⟩=some s∧aJ D w (bI l 0).args s∧I64 (bI l 0).n:=by
 obtain⟨b,off,s,ha,hD,h0,h1,h2,h3,h4,h5,h6⟩:=h.cellAt 0 hl;exact⟨b,off,s,ha,hD,World.block_lt_of_cell? _ _ h0,by simpa using h0,by simpa using h1,by simpa using h2,by simpa using h3,by simpa using h4,h5,h6⟩
theorem aJ.at1 {D:Nat→Prop}{w:World}{l:List Ex}{b off:Nat}{n cap:Nat}(h:aJ D w l (.slice (some ⟨b,off,none⟩) n cap))(hl:1<l.length):∃s,
  w.cell? ⟨b,off+5,none⟩=some (.int .i64 (bI l 1).kind)∧w.cell? ⟨b,off+5+1,none⟩=some (.int .i64 (bI l 1).op)∧w.cell? ⟨b,off+5+2,none⟩=some (.int .i64 (bI l 1).n)∧
  w.cell? ⟨b,off+5+3,none⟩=some (.string (aB (bI l 1).name))∧w.cell? ⟨b,off+5+4,none⟩=some s∧aJ D w (bI l 1).args s∧I64 (bI l 1).n:=by
 obtain⟨b',off',s,ha,_,h0,h1,h2,h3,h4,h5,h6⟩:=h.cellAt 1 hl
 cases ha
 exact⟨s,by simpa using h0,by simpa using h1,by simpa using h2,by simpa using h3,by simpa using h4,h5,h6⟩
theorem dA {m:Nat}{k:Int}{nm:Bs}{args:List Ex}{thn els:List St}(h:dD (m+1) (.mk k nm args thn els)=true):
  (args.length:Int)=cq k∧(1≤k∧k≤10)∧(∀x,x∈args→bZ x=true)∧thn.all (dD m)=true∧els.all (dD m)=true:=by
 simp only[dD,gY,St.kind,St.args,St.thn,St.els,Zq,Bool.not_eq_true',Bool.or_eq_false_iff,Bool.not_eq_false',beq_iff_eq,fOk,decide_eq_true_eq,List.all_eq_true]at h;obtain⟨⟨⟨⟨h1,h2⟩,h3⟩,h4⟩,h5⟩:=h;refine⟨by have:=h1.1.1.2;simpa using this,of_decide_eq_true h1.1.1.1.1,fun x hx=> ?_,List.all_eq_true.2 h4,List.all_eq_true.2 h5⟩;have:=h3 x hx;unfold cR at this;exact(Zq _ _ ▸ this:_∧_).2
def uw(m:Nat):Prop:= ∀(x:St),dD m x=true→∀(b:Nat) (bs:Bs) (t:Nat) (s st se:Value) (w:World),3<b→dL w→bJ w b bs t→aJ (· <b) w x.args s→aR (· <b) w x.thn st→aR (· <b) w x.els se→
 t+m≤1000→br (bs.length+(bj t x).length)→
 Calls Zc 134 #[.pointer (some ⟨b,0,none⟩),stV x s st se] w (f9 w b bs t (bj t x))
def iG(m:Nat):Prop:= ∀(l:List St),l.all (dD m)=true→∀(b:Nat) (bs:Bs) (t:Nat) (v:Value) (w:World),3<b→dL w→bJ w b bs t→aR (· <b) w l v→
 t+1+m≤1000→br (bs.length+(bN (t+1) l).length)→
 Calls Zc 81 #[.pointer (some ⟨b,0,none⟩),v] w (f9 w b bs t (bN (t+1) l))
theorem pst_5(m:Nat)(ih:iG m)(nm:Bs)(args:List Ex)(thn els:List St)(hx:dD (m+1) (.mk 5 nm args thn els)=true)(b:Nat)(bs:Bs)(t:Nat)(s st se:Value)(w:World)(hb:3<b)(ht:dL w)(hp:bJ w b bs t)
  (hs:aJ (· <b) w args s) (hst:aR (· <b) w thn st) (hse:aR (· <b) w els se) (htm:t+(m+1)≤1000) (hf:br (bs.length+(bj t (.mk 5 nm args thn els)).length)):
  Calls Zc 134 #[.pointer (some ⟨b,0,none⟩),stV (.mk 5 nm args thn els) s st se] w (f9 w b bs t (bj t (.mk 5 nm args thn els))):=by
 obtain⟨hlen,hrng,hwl,hot,hoe⟩:=dA hx;clear hrng;replace hlen:args.length=0:=by simp only[cq,Zj,if_true,if_false,reduceIte,or_true,true_or,or_false,false_or,or_self]at hlen;omega
 rw[dc,vd]at hf ⊢;obtain⟨sa,sc,rfl⟩:=hs.shape;obtain⟨ta,tc,rfl⟩:=hst.shape;obtain⟨ua,uc,rfl⟩:=hse.shape;show Calls _ _ #[.pointer (some ⟨b,0,none⟩),.agg #[.int .i64 5,.string (aB nm),.slice sa args.length sc,.slice ta thn.length tc,.slice ua els.length uc]] _ _
 have IH:=Za ih;have HT:=Za ht;have HP:=Za hp;have HF:=Za hf;have HST:=Za hst;have HSE:=Za hse;have HOT:=Za hot;have HOE:=Za hoe;have HP1:=Za (hp.alloc (.cells #[.int .i64 5,.string (aB nm),.slice sa args.length sc,.slice ta thn.length tc,.slice ua els.length uc] 60));have HF1:=Za (Zb hp (.cells #[.int .i64 5,.string (aB nm),.slice sa args.length sc,.slice ta thn.length tc,.slice ua els.length uc] 60));have HL1:=Za (Loc.new hp [.int .i64 5,.string (aB nm),.slice sa args.length sc,.slice ta thn.length tc,.slice ua els.length uc] 60);clear ih ht hp hf hst hse hx hwl hot hoe hlen hs;go_enter Zk,Zl
 go_wp2_with fail
 refine(dW [.s [98,114,101,97,107,59]] _ _ b _ t _ (by simp) hb (HT.out.fr HF1.out HP.out hb) HP1.out (.s (eX.nil)) (by omega) HF.out (by simp)).mono ?_;rintro r w2 ⟨rfl,hp2,hf2⟩;have HP2:=Za hp2;have HF2:=Za (HF1.out.trans hf2);have HL2:=Za (HL1.out.step hf2);clear hp2 hf2;go_wp2_with fail
 go_end0
 exact⟨rfl,by simpa only[Zg,Zm,Zn,WIt.text,Zo,Zp]using HP2.out,HF2.out⟩
theorem pst_6(m:Nat)(ih:iG m)(nm:Bs)(args:List Ex)(thn els:List St)(hx:dD (m+1) (.mk 6 nm args thn els)=true)(b:Nat)(bs:Bs)(t:Nat)(s st se:Value)(w:World)(hb:3<b)(ht:dL w)(hp:bJ w b bs t)
  (hs:aJ (· <b) w args s) (hst:aR (· <b) w thn st) (hse:aR (· <b) w els se) (htm:t+(m+1)≤1000) (hf:br (bs.length+(bj t (.mk 6 nm args thn els)).length)):
  Calls Zc 134 #[.pointer (some ⟨b,0,none⟩),stV (.mk 6 nm args thn els) s st se] w (f9 w b bs t (bj t (.mk 6 nm args thn els))):=by
 obtain⟨hlen,hrng,hwl,hot,hoe⟩:=dA hx;clear hrng;replace hlen:args.length=0:=by simp only[cq,Zj,if_true,if_false,reduceIte,or_true,true_or,or_false,false_or,or_self]at hlen;omega
 rw[dc,vL]at hf ⊢;obtain⟨sa,sc,rfl⟩:=hs.shape;obtain⟨ta,tc,rfl⟩:=hst.shape;obtain⟨ua,uc,rfl⟩:=hse.shape;show Calls _ _ #[.pointer (some ⟨b,0,none⟩),.agg #[.int .i64 6,.string (aB nm),.slice sa args.length sc,.slice ta thn.length tc,.slice ua els.length uc]] _ _
 have IH:=Za ih;have HT:=Za ht;have HP:=Za hp;have HF:=Za hf;have HST:=Za hst;have HSE:=Za hse;have HOT:=Za hot;have HOE:=Za hoe;have HP1:=Za (hp.alloc (.cells #[.int .i64 6,.string (aB nm),.slice sa args.length sc,.slice ta thn.length tc,.slice ua els.length uc] 60));have HF1:=Za (Zb hp (.cells #[.int .i64 6,.string (aB nm),.slice sa args.length sc,.slice ta thn.length tc,.slice ua els.length uc] 60));have HL1:=Za (Loc.new hp [.int .i64 6,.string (aB nm),.slice sa args.length sc,.slice ta thn.length tc,.slice ua els.length uc] 60);clear ih ht hp hf hst hse hx hwl hot hoe hlen hs;go_enter Zk,Zl
 go_wp2_with fail
 refine(dW [.s [99,111,110,116,105,110,117,101,59]] _ _ b _ t _ (by simp) hb (HT.out.fr HF1.out HP.out hb) HP1.out (.s (eX.nil)) (by omega) HF.out (by simp)).mono ?_;rintro r w2 ⟨rfl,hp2,hf2⟩;have HP2:=Za hp2;have HF2:=Za (HF1.out.trans hf2);have HL2:=Za (HL1.out.step hf2);clear hp2 hf2;go_wp2_with fail
 go_end0
 exact⟨rfl,by simpa only[Zg,Zm,Zn,WIt.text,Zo,Zp]using HP2.out,HF2.out⟩
theorem pst_7(m:Nat)(ih:iG m)(nm:Bs)(args:List Ex)(thn els:List St)(hx:dD (m+1) (.mk 7 nm args thn els)=true)(b:Nat)(bs:Bs)(t:Nat)(s st se:Value)(w:World)(hb:3<b)(ht:dL w)(hp:bJ w b bs t)
  (hs:aJ (· <b) w args s) (hst:aR (· <b) w thn st) (hse:aR (· <b) w els se) (htm:t+(m+1)≤1000) (hf:br (bs.length+(bj t (.mk 7 nm args thn els)).length)):
  Calls Zc 134 #[.pointer (some ⟨b,0,none⟩),stV (.mk 7 nm args thn els) s st se] w (f9 w b bs t (bj t (.mk 7 nm args thn els))):=by
 obtain⟨hlen,hrng,hwl,hot,hoe⟩:=dA hx;clear hrng;replace hlen:args.length=1:=by simp only[cq,Zj,if_true,if_false,reduceIte,or_true,true_or,or_false,false_or,or_self]at hlen;omega
 rw[dc,vZ]at hf ⊢;obtain⟨sa,sc,rfl⟩:=hs.shape;obtain⟨ta,tc,rfl⟩:=hst.shape;obtain⟨ua,uc,rfl⟩:=hse.shape;obtain⟨eb,off,av,rfl,hebD,hebl,z0,z1,z2,z3,z4,hea,hna⟩:=hs.at0 (by omega);obtain⟨aa,ac,rfl⟩:=hea.shape;have HWA:=Za (hwl _ (bx (l:=args) (i:=0) (by omega)));have hl0:(0:Int)<(args.length:Int):=by omega
 have hl0n:0<args.length:=by omega
 generalize bI args 0=xa at*;show Calls _ _ #[.pointer (some ⟨b,0,none⟩),.agg #[.int .i64 7,.string (aB nm),.slice (some ⟨eb,off,none⟩) args.length sc,.slice ta thn.length tc,.slice ua els.length uc]] _ _
 have IH:=Za ih;have HT:=Za ht;have HP:=Za hp;have HF:=Za hf;have HST:=Za hst;have HSE:=Za hse;have HOT:=Za hot;have HOE:=Za hoe;have HP1:=Za (hp.alloc (.cells #[.int .i64 7,.string (aB nm),.slice (some ⟨eb,off,none⟩) args.length sc,.slice ta thn.length tc,.slice ua els.length uc] 60));have HF1:=Za (Zb hp (.cells #[.int .i64 7,.string (aB nm),.slice (some ⟨eb,off,none⟩) args.length sc,.slice ta thn.length tc,.slice ua els.length uc] 60));have HL1:=Za (Loc.new hp [.int .i64 7,.string (aB nm),.slice (some ⟨eb,off,none⟩) args.length sc,.slice ta thn.length tc,.slice ua els.length uc] 60);have HEA:=Za hea;have HNA:=Za hna;clear ih ht hp hf hst hse hx hwl hot hoe hlen hs hea hna;go_enter Zk,Zl
 go_wp2_with fail
 refine(dW [.s [114,101,116,117,114,110,32],.e xa (.slice aa xa.args.length ac),.s [59]] _ _ b _ t _ (by simp) hb (HT.out.fr HF1.out HP.out hb) HP1.out (.s (.e (HEA.out.keep (HF1.out.keeps HP.out)) HNA.out HWA.out (.s (eX.nil)))) (by omega) HF.out (by simp)).mono ?_;rintro r w2 ⟨rfl,hp2,hf2⟩;have HP2:=Za hp2;have HF2:=Za (HF1.out.trans hf2);have HL2:=Za (HL1.out.step hf2);clear hp2 hf2;clear z0 z1 z2 z3 z4;go_wp2_with fail
 go_end0
 exact⟨rfl,by simpa only[Zg,Zm,Zn,WIt.text,Zo,Zp]using HP2.out,HF2.out⟩
theorem pst_8(m:Nat)(ih:iG m)(nm:Bs)(args:List Ex)(thn els:List St)(hx:dD (m+1) (.mk 8 nm args thn els)=true)(b:Nat)(bs:Bs)(t:Nat)(s st se:Value)(w:World)(hb:3<b)(ht:dL w)(hp:bJ w b bs t)
  (hs:aJ (· <b) w args s) (hst:aR (· <b) w thn st) (hse:aR (· <b) w els se) (htm:t+(m+1)≤1000) (hf:br (bs.length+(bj t (.mk 8 nm args thn els)).length)):
  Calls Zc 134 #[.pointer (some ⟨b,0,none⟩),stV (.mk 8 nm args thn els) s st se] w (f9 w b bs t (bj t (.mk 8 nm args thn els))):=by
 obtain⟨hlen,hrng,hwl,hot,hoe⟩:=dA hx;clear hrng;replace hlen:args.length=1:=by simp only[cq,Zj,if_true,if_false,reduceIte,or_true,true_or,or_false,false_or,or_self]at hlen;omega
 rw[dc,vl]at hf ⊢;obtain⟨sa,sc,rfl⟩:=hs.shape;obtain⟨ta,tc,rfl⟩:=hst.shape;obtain⟨ua,uc,rfl⟩:=hse.shape;obtain⟨eb,off,av,rfl,hebD,hebl,z0,z1,z2,z3,z4,hea,hna⟩:=hs.at0 (by omega);obtain⟨aa,ac,rfl⟩:=hea.shape;have HWA:=Za (hwl _ (bx (l:=args) (i:=0) (by omega)));have hl0:(0:Int)<(args.length:Int):=by omega
 have hl0n:0<args.length:=by omega
 generalize bI args 0=xa at*;show Calls _ _ #[.pointer (some ⟨b,0,none⟩),.agg #[.int .i64 8,.string (aB nm),.slice (some ⟨eb,off,none⟩) args.length sc,.slice ta thn.length tc,.slice ua els.length uc]] _ _
 have IH:=Za ih;have HT:=Za ht;have HP:=Za hp;have HF:=Za hf;have HST:=Za hst;have HSE:=Za hse;have HOT:=Za hot;have HOE:=Za hoe;have HP1:=Za (hp.alloc (.cells #[.int .i64 8,.string (aB nm),.slice (some ⟨eb,off,none⟩) args.length sc,.slice ta thn.length tc,.slice ua els.length uc] 60));have HF1:=Za (Zb hp (.cells #[.int .i64 8,.string (aB nm),.slice (some ⟨eb,off,none⟩) args.length sc,.slice ta thn.length tc,.slice ua els.length uc] 60));have HL1:=Za (Loc.new hp [.int .i64 8,.string (aB nm),.slice (some ⟨eb,off,none⟩) args.length sc,.slice ta thn.length tc,.slice ua els.length uc] 60);have HEA:=Za hea;have HNA:=Za hna;clear ih ht hp hf hst hse hx hwl hot hoe hlen hs hea hna;go_enter Zk,Zl
 go_wp2_with fail
 refine(dW [.s [112,114,105,110,116,40],.e xa (.slice aa xa.args.length ac),.s [41,59]] _ _ b _ t _ (by simp) hb (HT.out.fr HF1.out HP.out hb) HP1.out (.s (.e (HEA.out.keep (HF1.out.keeps HP.out)) HNA.out HWA.out (.s (eX.nil)))) (by omega) HF.out (by simp)).mono ?_;rintro r w2 ⟨rfl,hp2,hf2⟩;have HP2:=Za hp2;have HF2:=Za (HF1.out.trans hf2);have HL2:=Za (HL1.out.step hf2);clear hp2 hf2;clear z0 z1 z2 z3 z4;go_wp2_with fail
 go_end0
 exact⟨rfl,by simpa only[Zg,Zm,Zn,WIt.text,Zo,Zp]using HP2.out,HF2.out⟩
theorem pst_9(m:Nat)(ih:iG m)(nm:Bs)(args:List Ex)(thn els:List St)(hx:dD (m+1) (.mk 9 nm args thn els)=true)(b:Nat)(bs:Bs)(t:Nat)(s st se:Value)(w:World)(hb:3<b)(ht:dL w)(hp:bJ w b bs t)
  (hs:aJ (· <b) w args s) (hst:aR (· <b) w thn st) (hse:aR (· <b) w els se) (htm:t+(m+1)≤1000) (hf:br (bs.length+(bj t (.mk 9 nm args thn els)).length)):
  Calls Zc 134 #[.pointer (some ⟨b,0,none⟩),stV (.mk 9 nm args thn els) s st se] w (f9 w b bs t (bj t (.mk 9 nm args thn els))):=by
 obtain⟨hlen,hrng,hwl,hot,hoe⟩:=dA hx;clear hrng;replace hlen:args.length=1:=by simp only[cq,Zj,if_true,if_false,reduceIte,or_true,true_or,or_false,false_or,or_self]at hlen;omega
 rw[dc,wN]at hf ⊢;obtain⟨sa,sc,rfl⟩:=hs.shape;obtain⟨ta,tc,rfl⟩:=hst.shape;obtain⟨ua,uc,rfl⟩:=hse.shape;obtain⟨eb,off,av,rfl,hebD,hebl,z0,z1,z2,z3,z4,hea,hna⟩:=hs.at0 (by omega);obtain⟨aa,ac,rfl⟩:=hea.shape;have HWA:=Za (hwl _ (bx (l:=args) (i:=0) (by omega)));have hl0:(0:Int)<(args.length:Int):=by omega
 have hl0n:0<args.length:=by omega
 generalize bI args 0=xa at*;show Calls _ _ #[.pointer (some ⟨b,0,none⟩),.agg #[.int .i64 9,.string (aB nm),.slice (some ⟨eb,off,none⟩) args.length sc,.slice ta thn.length tc,.slice ua els.length uc]] _ _
 have IH:=Za ih;have HT:=Za ht;have HP:=Za hp;have HF:=Za hf;have HST:=Za hst;have HSE:=Za hse;have HOT:=Za hot;have HOE:=Za hoe;have HP1:=Za (hp.alloc (.cells #[.int .i64 9,.string (aB nm),.slice (some ⟨eb,off,none⟩) args.length sc,.slice ta thn.length tc,.slice ua els.length uc] 60));have HF1:=Za (Zb hp (.cells #[.int .i64 9,.string (aB nm),.slice (some ⟨eb,off,none⟩) args.length sc,.slice ta thn.length tc,.slice ua els.length uc] 60));have HL1:=Za (Loc.new hp [.int .i64 9,.string (aB nm),.slice (some ⟨eb,off,none⟩) args.length sc,.slice ta thn.length tc,.slice ua els.length uc] 60);have HEA:=Za hea;have HNA:=Za hna;clear ih ht hp hf hst hse hx hwl hot hoe hlen hs hea hna;go_enter Zk,Zl
 go_wp2_with fail
 refine(dW [.s [116,114,97,112,40],.e xa (.slice aa xa.args.length ac),.s [41,59]] _ _ b _ t _ (by simp) hb (HT.out.fr HF1.out HP.out hb) HP1.out (.s (.e (HEA.out.keep (HF1.out.keeps HP.out)) HNA.out HWA.out (.s (eX.nil)))) (by omega) HF.out (by simp)).mono ?_;rintro r w2 ⟨rfl,hp2,hf2⟩;have HP2:=Za hp2;have HF2:=Za (HF1.out.trans hf2);have HL2:=Za (HL1.out.step hf2);clear hp2 hf2;clear z0 z1 z2 z3 z4;go_wp2_with fail
 go_end0
 exact⟨rfl,by simpa only[Zg,Zm,Zn,WIt.text,Zo,Zp]using HP2.out,HF2.out⟩
theorem pst_10(m:Nat)(ih:iG m)(nm:Bs)(args:List Ex)(thn els:List St)(hx:dD (m+1) (.mk 10 nm args thn els)=true)(b:Nat)(bs:Bs)(t:Nat)(s st se:Value)(w:World)(hb:3<b)(ht:dL w)(hp:bJ w b bs t)
  (hs:aJ (· <b) w args s) (hst:aR (· <b) w thn st) (hse:aR (· <b) w els se) (htm:t+(m+1)≤1000) (hf:br (bs.length+(bj t (.mk 10 nm args thn els)).length)):
  Calls Zc 134 #[.pointer (some ⟨b,0,none⟩),stV (.mk 10 nm args thn els) s st se] w (f9 w b bs t (bj t (.mk 10 nm args thn els))):=by
 obtain⟨hlen,hrng,hwl,hot,hoe⟩:=dA hx;clear hrng;replace hlen:args.length=1:=by simp only[cq,Zj,if_true,if_false,reduceIte,or_true,true_or,or_false,false_or,or_self]at hlen;omega
 rw[dc,uR]at hf ⊢;obtain⟨sa,sc,rfl⟩:=hs.shape;obtain⟨ta,tc,rfl⟩:=hst.shape;obtain⟨ua,uc,rfl⟩:=hse.shape;obtain⟨eb,off,av,rfl,hebD,hebl,z0,z1,z2,z3,z4,hea,hna⟩:=hs.at0 (by omega);obtain⟨aa,ac,rfl⟩:=hea.shape;have HWA:=Za (hwl _ (bx (l:=args) (i:=0) (by omega)));have hl0:(0:Int)<(args.length:Int):=by omega
 have hl0n:0<args.length:=by omega
 generalize bI args 0=xa at*;show Calls _ _ #[.pointer (some ⟨b,0,none⟩),.agg #[.int .i64 10,.string (aB nm),.slice (some ⟨eb,off,none⟩) args.length sc,.slice ta thn.length tc,.slice ua els.length uc]] _ _
 have IH:=Za ih;have HT:=Za ht;have HP:=Za hp;have HF:=Za hf;have HST:=Za hst;have HSE:=Za hse;have HOT:=Za hot;have HOE:=Za hoe;have HP1:=Za (hp.alloc (.cells #[.int .i64 10,.string (aB nm),.slice (some ⟨eb,off,none⟩) args.length sc,.slice ta thn.length tc,.slice ua els.length uc] 60));have HF1:=Za (Zb hp (.cells #[.int .i64 10,.string (aB nm),.slice (some ⟨eb,off,none⟩) args.length sc,.slice ta thn.length tc,.slice ua els.length uc] 60));have HL1:=Za (Loc.new hp [.int .i64 10,.string (aB nm),.slice (some ⟨eb,off,none⟩) args.length sc,.slice ta thn.length tc,.slice ua els.length uc] 60);have HEA:=Za hea;have HNA:=Za hna;clear ih ht hp hf hst hse hx hwl hot hoe hlen hs hea hna;go_enter Zk,Zl
 go_wp2_with fail
 refine(dW [.e xa (.slice aa xa.args.length ac),.s [59]] _ _ b _ t _ (by simp) hb (HT.out.fr HF1.out HP.out hb) HP1.out (.e (HEA.out.keep (HF1.out.keeps HP.out)) HNA.out HWA.out (.s (eX.nil))) (by omega) HF.out (by simp)).mono ?_;rintro r w2 ⟨rfl,hp2,hf2⟩;have HP2:=Za hp2;have HF2:=Za (HF1.out.trans hf2);have HL2:=Za (HL1.out.step hf2);clear hp2 hf2;clear z0 z1 z2 z3 z4;go_wp2_with fail
 go_end0
 exact⟨rfl,by simpa only[Zg,Zm,Zn,WIt.text,Zo,Zp]using HP2.out,HF2.out⟩
end Go.Proofs.YtcfpfnoldgnloaaGreatDoor
