/-
  Print: a program's text. Conditions: the text takes at most 2^47 bytes; the library's table of powers is there.
-/
import Derived.Test.YtfhbinbjkpfedaaGreatDoorTT09
import Derived.Shelf.RegionOpenPlain
import Derived.Laws.IdiomCopy
import Derived.Laws.BitsLemmas
set_option linter.unusedVariables false
set_option linter.unusedSimpArgs false
namespace Go.Proofs.YtfhbinbjkpfedaaGreatDoor
open Go.RowKit Go.Proofs.Tryz
set_option maxHeartbeats 20000000
set_option maxRecDepth 100000
open Go.Lib renaming hid→Za
open Go.Proofs.Tryz renaming prog→Zb,func114→Zl,ntmps114→Zm
open PFr renaming alloc→Zc,of_below→Zp
open World renaming cell?_alloc_lt→Zd,block_lt_of_cell?→Zt
open List renaming getElem_cons_zero→Ze,getElem_cons_succ→Zf,append_assoc→Zg,map_cons→Zh,map_nil→Zi,nil_append→Zj,append_nil→Zn,length_append→Zo,take_of_length_le→Zq,flatMap_append→Zs,take_succ_eq_append_getElem→Zu,getElem?_eq_getElem→Zv
open Int renaming reduceEq→Zk
open Bool renaming and_eq_true→Zr
theorem pst_5(m:Nat)(ih:Jj m)(nm:Bs)(args:List Ex)(thn els:List St)(hx:De (m+1) (.mk 5 nm args thn els)=true)(b:Nat)(bs:Bs)(t:Nat)(s st se:Value)(w:World)(hb:3<b)(ht:Da w)(hp:Bt w b bs t)
  (hs:Aj (· <b) w args s) (hst:Ap (· <b) w thn st) (hse:Ap (· <b) w els se) (htm:t+(m+1)≤1000) (hf:Ci (bs.length+(Br t (.mk 5 nm args thn els)).length)):
  Calls Zb 114 #[.pointer (some ⟨b,0,none⟩),stV (.mk 5 nm args thn els) s st se] w (Hw w b bs t (Br t (.mk 5 nm args thn els))):=by
 obtain⟨hlen,hrng,hwl,hot,hoe⟩:=Ed hx;clear hrng;replace hlen:args.length=0:=by simp only[Ea,Zk,if_true,if_false,reduceIte,or_true,true_or,or_false,false_or,or_self]at hlen;omega
 rw[Cj,Om]at hf ⊢;obtain⟨sa,sc,rfl⟩:=hs.shape;obtain⟨ta,tc,rfl⟩:=hst.shape;obtain⟨ua,uc,rfl⟩:=hse.shape;show Calls _ _ #[.pointer (some ⟨b,0,none⟩),.agg #[.int .i64 5,.string (Aa nm),.slice sa args.length sc,.slice ta thn.length tc,.slice ua els.length uc]] _ _
 have IH:=Za ih;have HT:=Za ht;have HP:=Za hp;have HF:=Za hf;have HST:=Za hst;have HSE:=Za hse;have HOT:=Za hot;have HOE:=Za hoe;have HP1:=Za (hp.alloc (.cells #[.int .i64 5,.string (Aa nm),.slice sa args.length sc,.slice ta thn.length tc,.slice ua els.length uc] 56));have HF1:=Za (Zc hp (.cells #[.int .i64 5,.string (Aa nm),.slice sa args.length sc,.slice ta thn.length tc,.slice ua els.length uc] 56));have HL1:=Za (Loc.new hp [.int .i64 5,.string (Aa nm),.slice sa args.length sc,.slice ta thn.length tc,.slice ua els.length uc] 56);clear ih ht hp hf hst hse hx hwl hot hoe hlen hs;go_enter Zl,Zm
 go_wp2_with fail
 refine(Eo [.s [98,114,101,97,107,59]] _ _ b _ t _ (by simp) hb (HT.o.fr HF1.o HP.o hb) HP1.o (.s (Gi.nil)) (by omega) HF.o (by simp)).mono ?_;rintro r w2 ⟨rfl,hp2,hf2⟩;have HP2:=Za hp2;have HF2:=Za (HF1.o.trans hf2);have HL2:=Za (HL1.o.step hf2);clear hp2 hf2;go_wp2_with fail
 go_end0
 exact⟨rfl,by simpa only[Zg,Zh,Zi,WIt.text,Zj,Zn]using HP2.o,HF2.o⟩
theorem pst_6(m:Nat)(ih:Jj m)(nm:Bs)(args:List Ex)(thn els:List St)(hx:De (m+1) (.mk 6 nm args thn els)=true)(b:Nat)(bs:Bs)(t:Nat)(s st se:Value)(w:World)(hb:3<b)(ht:Da w)(hp:Bt w b bs t)
  (hs:Aj (· <b) w args s) (hst:Ap (· <b) w thn st) (hse:Ap (· <b) w els se) (htm:t+(m+1)≤1000) (hf:Ci (bs.length+(Br t (.mk 6 nm args thn els)).length)):
  Calls Zb 114 #[.pointer (some ⟨b,0,none⟩),stV (.mk 6 nm args thn els) s st se] w (Hw w b bs t (Br t (.mk 6 nm args thn els))):=by
 obtain⟨hlen,hrng,hwl,hot,hoe⟩:=Ed hx;clear hrng;replace hlen:args.length=0:=by simp only[Ea,Zk,if_true,if_false,reduceIte,or_true,true_or,or_false,false_or,or_self]at hlen;omega
 rw[Cj,Oz]at hf ⊢;obtain⟨sa,sc,rfl⟩:=hs.shape;obtain⟨ta,tc,rfl⟩:=hst.shape;obtain⟨ua,uc,rfl⟩:=hse.shape;show Calls _ _ #[.pointer (some ⟨b,0,none⟩),.agg #[.int .i64 6,.string (Aa nm),.slice sa args.length sc,.slice ta thn.length tc,.slice ua els.length uc]] _ _
 have IH:=Za ih;have HT:=Za ht;have HP:=Za hp;have HF:=Za hf;have HST:=Za hst;have HSE:=Za hse;have HOT:=Za hot;have HOE:=Za hoe;have HP1:=Za (hp.alloc (.cells #[.int .i64 6,.string (Aa nm),.slice sa args.length sc,.slice ta thn.length tc,.slice ua els.length uc] 56));have HF1:=Za (Zc hp (.cells #[.int .i64 6,.string (Aa nm),.slice sa args.length sc,.slice ta thn.length tc,.slice ua els.length uc] 56));have HL1:=Za (Loc.new hp [.int .i64 6,.string (Aa nm),.slice sa args.length sc,.slice ta thn.length tc,.slice ua els.length uc] 56);clear ih ht hp hf hst hse hx hwl hot hoe hlen hs;go_enter Zl,Zm
 go_wp2_with fail
 refine(Eo [.s [99,111,110,116,105,110,117,101,59]] _ _ b _ t _ (by simp) hb (HT.o.fr HF1.o HP.o hb) HP1.o (.s (Gi.nil)) (by omega) HF.o (by simp)).mono ?_;rintro r w2 ⟨rfl,hp2,hf2⟩;have HP2:=Za hp2;have HF2:=Za (HF1.o.trans hf2);have HL2:=Za (HL1.o.step hf2);clear hp2 hf2;go_wp2_with fail
 go_end0
 exact⟨rfl,by simpa only[Zg,Zh,Zi,WIt.text,Zj,Zn]using HP2.o,HF2.o⟩
theorem pst_7(m:Nat)(ih:Jj m)(nm:Bs)(args:List Ex)(thn els:List St)(hx:De (m+1) (.mk 7 nm args thn els)=true)(b:Nat)(bs:Bs)(t:Nat)(s st se:Value)(w:World)(hb:3<b)(ht:Da w)(hp:Bt w b bs t)
  (hs:Aj (· <b) w args s) (hst:Ap (· <b) w thn st) (hse:Ap (· <b) w els se) (htm:t+(m+1)≤1000) (hf:Ci (bs.length+(Br t (.mk 7 nm args thn els)).length)):
  Calls Zb 114 #[.pointer (some ⟨b,0,none⟩),stV (.mk 7 nm args thn els) s st se] w (Hw w b bs t (Br t (.mk 7 nm args thn els))):=by
 obtain⟨hlen,hrng,hwl,hot,hoe⟩:=Ed hx;clear hrng;replace hlen:args.length=1:=by simp only[Ea,Zk,if_true,if_false,reduceIte,or_true,true_or,or_false,false_or,or_self]at hlen;omega
 rw[Cj,On]at hf ⊢;obtain⟨sa,sc,rfl⟩:=hs.shape;obtain⟨ta,tc,rfl⟩:=hst.shape;obtain⟨ua,uc,rfl⟩:=hse.shape;obtain⟨eb,off,av,rfl,hebD,hebl,z0,z1,z2,z3,z4,hea,hna⟩:=hs.at0 (by omega);obtain⟨aa,ac,rfl⟩:=hea.shape;have HWA:=Za (hwl _ (Bf (l:=args) (i:=0) (by omega)));have hl0:(0:Int)<(args.length:Int):=by omega
 have hl0n:0<args.length:=by omega
 generalize Ao args 0=xa at*;show Calls _ _ #[.pointer (some ⟨b,0,none⟩),.agg #[.int .i64 7,.string (Aa nm),.slice (some ⟨eb,off,none⟩) args.length sc,.slice ta thn.length tc,.slice ua els.length uc]] _ _
 have IH:=Za ih;have HT:=Za ht;have HP:=Za hp;have HF:=Za hf;have HST:=Za hst;have HSE:=Za hse;have HOT:=Za hot;have HOE:=Za hoe;have HP1:=Za (hp.alloc (.cells #[.int .i64 7,.string (Aa nm),.slice (some ⟨eb,off,none⟩) args.length sc,.slice ta thn.length tc,.slice ua els.length uc] 56));have HF1:=Za (Zc hp (.cells #[.int .i64 7,.string (Aa nm),.slice (some ⟨eb,off,none⟩) args.length sc,.slice ta thn.length tc,.slice ua els.length uc] 56));have HL1:=Za (Loc.new hp [.int .i64 7,.string (Aa nm),.slice (some ⟨eb,off,none⟩) args.length sc,.slice ta thn.length tc,.slice ua els.length uc] 56);have HEA:=Za hea;have HNA:=Za hna;clear ih ht hp hf hst hse hx hwl hot hoe hlen hs hea hna;go_enter Zl,Zm
 go_wp2_with fail
 refine(Eo [.s [114,101,116,117,114,110,32],.e xa (.slice aa xa.args.length ac),.s [59]] _ _ b _ t _ (by simp) hb (HT.o.fr HF1.o HP.o hb) HP1.o (.s (.e (HEA.o.keep (HF1.o.keeps HP.o)) HNA.o HWA.o (.s (Gi.nil)))) (by omega) HF.o (by simp)).mono ?_;rintro r w2 ⟨rfl,hp2,hf2⟩;have HP2:=Za hp2;have HF2:=Za (HF1.o.trans hf2);have HL2:=Za (HL1.o.step hf2);clear hp2 hf2;clear z0 z1 z2 z3 z4;go_wp2_with fail
 go_end0
 exact⟨rfl,by simpa only[Zg,Zh,Zi,WIt.text,Zj,Zn]using HP2.o,HF2.o⟩
theorem pst_8(m:Nat)(ih:Jj m)(nm:Bs)(args:List Ex)(thn els:List St)(hx:De (m+1) (.mk 8 nm args thn els)=true)(b:Nat)(bs:Bs)(t:Nat)(s st se:Value)(w:World)(hb:3<b)(ht:Da w)(hp:Bt w b bs t)
  (hs:Aj (· <b) w args s) (hst:Ap (· <b) w thn st) (hse:Ap (· <b) w els se) (htm:t+(m+1)≤1000) (hf:Ci (bs.length+(Br t (.mk 8 nm args thn els)).length)):
  Calls Zb 114 #[.pointer (some ⟨b,0,none⟩),stV (.mk 8 nm args thn els) s st se] w (Hw w b bs t (Br t (.mk 8 nm args thn els))):=by
 obtain⟨hlen,hrng,hwl,hot,hoe⟩:=Ed hx;clear hrng;replace hlen:args.length=1:=by simp only[Ea,Zk,if_true,if_false,reduceIte,or_true,true_or,or_false,false_or,or_self]at hlen;omega
 rw[Cj,Ol]at hf ⊢;obtain⟨sa,sc,rfl⟩:=hs.shape;obtain⟨ta,tc,rfl⟩:=hst.shape;obtain⟨ua,uc,rfl⟩:=hse.shape;obtain⟨eb,off,av,rfl,hebD,hebl,z0,z1,z2,z3,z4,hea,hna⟩:=hs.at0 (by omega);obtain⟨aa,ac,rfl⟩:=hea.shape;have HWA:=Za (hwl _ (Bf (l:=args) (i:=0) (by omega)));have hl0:(0:Int)<(args.length:Int):=by omega
 have hl0n:0<args.length:=by omega
 generalize Ao args 0=xa at*;show Calls _ _ #[.pointer (some ⟨b,0,none⟩),.agg #[.int .i64 8,.string (Aa nm),.slice (some ⟨eb,off,none⟩) args.length sc,.slice ta thn.length tc,.slice ua els.length uc]] _ _
 have IH:=Za ih;have HT:=Za ht;have HP:=Za hp;have HF:=Za hf;have HST:=Za hst;have HSE:=Za hse;have HOT:=Za hot;have HOE:=Za hoe;have HP1:=Za (hp.alloc (.cells #[.int .i64 8,.string (Aa nm),.slice (some ⟨eb,off,none⟩) args.length sc,.slice ta thn.length tc,.slice ua els.length uc] 56));have HF1:=Za (Zc hp (.cells #[.int .i64 8,.string (Aa nm),.slice (some ⟨eb,off,none⟩) args.length sc,.slice ta thn.length tc,.slice ua els.length uc] 56));have HL1:=Za (Loc.new hp [.int .i64 8,.string (Aa nm),.slice (some ⟨eb,off,none⟩) args.length sc,.slice ta thn.length tc,.slice ua els.length uc] 56);have HEA:=Za hea;have HNA:=Za hna;clear ih ht hp hf hst hse hx hwl hot hoe hlen hs hea hna;go_enter Zl,Zm
 go_wp2_with fail
 refine(Eo [.s [112,114,105,110,116,40],.e xa (.slice aa xa.args.length ac),.s [41,59]] _ _ b _ t _ (by simp) hb (HT.o.fr HF1.o HP.o hb) HP1.o (.s (.e (HEA.o.keep (HF1.o.keeps HP.o)) HNA.o HWA.o (.s (Gi.nil)))) (by omega) HF.o (by simp)).mono ?_;rintro r w2 ⟨rfl,hp2,hf2⟩;have HP2:=Za hp2;have HF2:=Za (HF1.o.trans hf2);have HL2:=Za (HL1.o.step hf2);clear hp2 hf2;clear z0 z1 z2 z3 z4;go_wp2_with fail
 go_end0
 exact⟨rfl,by simpa only[Zg,Zh,Zi,WIt.text,Zj,Zn]using HP2.o,HF2.o⟩
theorem pst_9(m:Nat)(ih:Jj m)(nm:Bs)(args:List Ex)(thn els:List St)(hx:De (m+1) (.mk 9 nm args thn els)=true)(b:Nat)(bs:Bs)(t:Nat)(s st se:Value)(w:World)(hb:3<b)(ht:Da w)(hp:Bt w b bs t)
  (hs:Aj (· <b) w args s) (hst:Ap (· <b) w thn st) (hse:Ap (· <b) w els se) (htm:t+(m+1)≤1000) (hf:Ci (bs.length+(Br t (.mk 9 nm args thn els)).length)):
  Calls Zb 114 #[.pointer (some ⟨b,0,none⟩),stV (.mk 9 nm args thn els) s st se] w (Hw w b bs t (Br t (.mk 9 nm args thn els))):=by
 obtain⟨hlen,hrng,hwl,hot,hoe⟩:=Ed hx;clear hrng;replace hlen:args.length=1:=by simp only[Ea,Zk,if_true,if_false,reduceIte,or_true,true_or,or_false,false_or,or_self]at hlen;omega
 rw[Cj,Ow]at hf ⊢;obtain⟨sa,sc,rfl⟩:=hs.shape;obtain⟨ta,tc,rfl⟩:=hst.shape;obtain⟨ua,uc,rfl⟩:=hse.shape;obtain⟨eb,off,av,rfl,hebD,hebl,z0,z1,z2,z3,z4,hea,hna⟩:=hs.at0 (by omega);obtain⟨aa,ac,rfl⟩:=hea.shape;have HWA:=Za (hwl _ (Bf (l:=args) (i:=0) (by omega)));have hl0:(0:Int)<(args.length:Int):=by omega
 have hl0n:0<args.length:=by omega
 generalize Ao args 0=xa at*;show Calls _ _ #[.pointer (some ⟨b,0,none⟩),.agg #[.int .i64 9,.string (Aa nm),.slice (some ⟨eb,off,none⟩) args.length sc,.slice ta thn.length tc,.slice ua els.length uc]] _ _
 have IH:=Za ih;have HT:=Za ht;have HP:=Za hp;have HF:=Za hf;have HST:=Za hst;have HSE:=Za hse;have HOT:=Za hot;have HOE:=Za hoe;have HP1:=Za (hp.alloc (.cells #[.int .i64 9,.string (Aa nm),.slice (some ⟨eb,off,none⟩) args.length sc,.slice ta thn.length tc,.slice ua els.length uc] 56));have HF1:=Za (Zc hp (.cells #[.int .i64 9,.string (Aa nm),.slice (some ⟨eb,off,none⟩) args.length sc,.slice ta thn.length tc,.slice ua els.length uc] 56));have HL1:=Za (Loc.new hp [.int .i64 9,.string (Aa nm),.slice (some ⟨eb,off,none⟩) args.length sc,.slice ta thn.length tc,.slice ua els.length uc] 56);have HEA:=Za hea;have HNA:=Za hna;clear ih ht hp hf hst hse hx hwl hot hoe hlen hs hea hna;go_enter Zl,Zm
 go_wp2_with fail
 refine(Eo [.s [116,114,97,112,40],.e xa (.slice aa xa.args.length ac),.s [41,59]] _ _ b _ t _ (by simp) hb (HT.o.fr HF1.o HP.o hb) HP1.o (.s (.e (HEA.o.keep (HF1.o.keeps HP.o)) HNA.o HWA.o (.s (Gi.nil)))) (by omega) HF.o (by simp)).mono ?_;rintro r w2 ⟨rfl,hp2,hf2⟩;have HP2:=Za hp2;have HF2:=Za (HF1.o.trans hf2);have HL2:=Za (HL1.o.step hf2);clear hp2 hf2;clear z0 z1 z2 z3 z4;go_wp2_with fail
 go_end0
 exact⟨rfl,by simpa only[Zg,Zh,Zi,WIt.text,Zj,Zn]using HP2.o,HF2.o⟩
theorem pst_10(m:Nat)(ih:Jj m)(nm:Bs)(args:List Ex)(thn els:List St)(hx:De (m+1) (.mk 10 nm args thn els)=true)(b:Nat)(bs:Bs)(t:Nat)(s st se:Value)(w:World)(hb:3<b)(ht:Da w)(hp:Bt w b bs t)
  (hs:Aj (· <b) w args s) (hst:Ap (· <b) w thn st) (hse:Ap (· <b) w els se) (htm:t+(m+1)≤1000) (hf:Ci (bs.length+(Br t (.mk 10 nm args thn els)).length)):
  Calls Zb 114 #[.pointer (some ⟨b,0,none⟩),stV (.mk 10 nm args thn els) s st se] w (Hw w b bs t (Br t (.mk 10 nm args thn els))):=by
 obtain⟨hlen,hrng,hwl,hot,hoe⟩:=Ed hx;clear hrng;replace hlen:args.length=1:=by simp only[Ea,Zk,if_true,if_false,reduceIte,or_true,true_or,or_false,false_or,or_self]at hlen;omega
 rw[Cj,Mo]at hf ⊢;obtain⟨sa,sc,rfl⟩:=hs.shape;obtain⟨ta,tc,rfl⟩:=hst.shape;obtain⟨ua,uc,rfl⟩:=hse.shape;obtain⟨eb,off,av,rfl,hebD,hebl,z0,z1,z2,z3,z4,hea,hna⟩:=hs.at0 (by omega);obtain⟨aa,ac,rfl⟩:=hea.shape;have HWA:=Za (hwl _ (Bf (l:=args) (i:=0) (by omega)));have hl0:(0:Int)<(args.length:Int):=by omega
 have hl0n:0<args.length:=by omega
 generalize Ao args 0=xa at*;show Calls _ _ #[.pointer (some ⟨b,0,none⟩),.agg #[.int .i64 10,.string (Aa nm),.slice (some ⟨eb,off,none⟩) args.length sc,.slice ta thn.length tc,.slice ua els.length uc]] _ _
 have IH:=Za ih;have HT:=Za ht;have HP:=Za hp;have HF:=Za hf;have HST:=Za hst;have HSE:=Za hse;have HOT:=Za hot;have HOE:=Za hoe;have HP1:=Za (hp.alloc (.cells #[.int .i64 10,.string (Aa nm),.slice (some ⟨eb,off,none⟩) args.length sc,.slice ta thn.length tc,.slice ua els.length uc] 56));have HF1:=Za (Zc hp (.cells #[.int .i64 10,.string (Aa nm),.slice (some ⟨eb,off,none⟩) args.length sc,.slice ta thn.length tc,.slice ua els.length uc] 56));have HL1:=Za (Loc.new hp [.int .i64 10,.string (Aa nm),.slice (some ⟨eb,off,none⟩) args.length sc,.slice ta thn.length tc,.slice ua els.length uc] 56);have HEA:=Za hea;have HNA:=Za hna;clear ih ht hp hf hst hse hx hwl hot hoe hlen hs hea hna;go_enter Zl,Zm
 go_wp2_with fail
 refine(Eo [.e xa (.slice aa xa.args.length ac),.s [59]] _ _ b _ t _ (by simp) hb (HT.o.fr HF1.o HP.o hb) HP1.o (.e (HEA.o.keep (HF1.o.keeps HP.o)) HNA.o HWA.o (.s (Gi.nil))) (by omega) HF.o (by simp)).mono ?_;rintro r w2 ⟨rfl,hp2,hf2⟩;have HP2:=Za hp2;have HF2:=Za (HF1.o.trans hf2);have HL2:=Za (HL1.o.step hf2);clear hp2 hf2;clear z0 z1 z2 z3 z4;go_wp2_with fail
 go_end0
 exact⟨rfl,by simpa only[Zg,Zh,Zi,WIt.text,Zj,Zn]using HP2.o,HF2.o⟩
theorem pst_1(m:Nat)(ih:Jj m)(nm:Bs)(args:List Ex)(thn els:List St)(hx:De (m+1) (.mk 1 nm args thn els)=true)(b:Nat)(bs:Bs)(t:Nat)(s st se:Value)(w:World)(hb:3<b)(ht:Da w)(hp:Bt w b bs t)
  (hs:Aj (· <b) w args s) (hst:Ap (· <b) w thn st) (hse:Ap (· <b) w els se) (htm:t+(m+1)≤1000) (hf:Ci (bs.length+(Br t (.mk 1 nm args thn els)).length)):
  Calls Zb 114 #[.pointer (some ⟨b,0,none⟩),stV (.mk 1 nm args thn els) s st se] w (Hw w b bs t (Br t (.mk 1 nm args thn els))):=by
 obtain⟨hlen,hrng,hwl,hot,hoe⟩:=Ed hx;clear hrng;replace hlen:args.length=1:=by simp only[Ea,Zk,if_true,if_false,reduceIte,or_true,true_or,or_false,false_or,or_self]at hlen;omega
 rw[Cj,Ox]at hf ⊢;obtain⟨sa,sc,rfl⟩:=hs.shape;obtain⟨ta,tc,rfl⟩:=hst.shape;obtain⟨ua,uc,rfl⟩:=hse.shape;obtain⟨eb,off,av,rfl,hebD,hebl,z0,z1,z2,z3,z4,hea,hna⟩:=hs.at0 (by omega);obtain⟨aa,ac,rfl⟩:=hea.shape;have HWA:=Za (hwl _ (Bf (l:=args) (i:=0) (by omega)));have hl0:(0:Int)<(args.length:Int):=by omega
 have hl0n:0<args.length:=by omega
 generalize Ao args 0=xa at*;show Calls _ _ #[.pointer (some ⟨b,0,none⟩),.agg #[.int .i64 1,.string (Aa nm),.slice (some ⟨eb,off,none⟩) args.length sc,.slice ta thn.length tc,.slice ua els.length uc]] _ _
 have IH:=Za ih;have HT:=Za ht;have HP:=Za hp;have HF:=Za hf;have HST:=Za hst;have HSE:=Za hse;have HOT:=Za hot;have HOE:=Za hoe;have HP1:=Za (hp.alloc (.cells #[.int .i64 1,.string (Aa nm),.slice (some ⟨eb,off,none⟩) args.length sc,.slice ta thn.length tc,.slice ua els.length uc] 56));have HF1:=Za (Zc hp (.cells #[.int .i64 1,.string (Aa nm),.slice (some ⟨eb,off,none⟩) args.length sc,.slice ta thn.length tc,.slice ua els.length uc] 56));have HL1:=Za (Loc.new hp [.int .i64 1,.string (Aa nm),.slice (some ⟨eb,off,none⟩) args.length sc,.slice ta thn.length tc,.slice ua els.length uc] 56);have HEA:=Za hea;have HNA:=Za hna;clear ih ht hp hf hst hse hx hwl hot hoe hlen hs hea hna;go_enter Zl,Zm
 go_wp2_with fail
 have z0:(w.alloc (.cells #[.int .i64 1,.string (Aa nm),.slice (some ⟨eb,off,none⟩) args.length sc,.slice ta thn.length tc,.slice ua els.length uc] 56)).cell? ⟨eb,off,none⟩=some (.int .i64 xa.kind):=by rw[Zd _ _ _ hebl];exact z0
 have z1:(w.alloc (.cells #[.int .i64 1,.string (Aa nm),.slice (some ⟨eb,off,none⟩) args.length sc,.slice ta thn.length tc,.slice ua els.length uc] 56)).cell? ⟨eb,off+1,none⟩=some (.int .i64 xa.op):=by rw[Zd _ _ _ hebl];exact z1
 have z2:(w.alloc (.cells #[.int .i64 1,.string (Aa nm),.slice (some ⟨eb,off,none⟩) args.length sc,.slice ta thn.length tc,.slice ua els.length uc] 56)).cell? ⟨eb,off+2,none⟩=some (.int .i64 xa.n):=by rw[Zd _ _ _ hebl];exact z2
 have z3:(w.alloc (.cells #[.int .i64 1,.string (Aa nm),.slice (some ⟨eb,off,none⟩) args.length sc,.slice ta thn.length tc,.slice ua els.length uc] 56)).cell? ⟨eb,off+3,none⟩=some (.string (Aa xa.name)):=by rw[Zd _ _ _ hebl];exact z3
 have z4:(w.alloc (.cells #[.int .i64 1,.string (Aa nm),.slice (some ⟨eb,off,none⟩) args.length sc,.slice ta thn.length tc,.slice ua els.length uc] 56)).cell? ⟨eb,off+4,none⟩=some (.slice aa xa.args.length ac):=by rw[Zd _ _ _ hebl];exact z4
 have hbl:=HP1.o.lt;have HXl:Hid (w.heap.size<(w.alloc (.cells #[.int .i64 1,.string (Aa nm),.slice (some ⟨eb,off,none⟩) args.length sc,.slice ta thn.length tc,.slice ua els.length uc] 56)).heap.size):=by show _<_;simp
 generalize w.alloc (.cells #[.int .i64 1,.string (Aa nm),.slice (some ⟨eb,off,none⟩) args.length sc,.slice ta thn.length tc,.slice ua els.length uc] 56)=W at*;have c1:=HL1.o.cell 1 (by simp);have c2:=HL1.o.cell 2 (by simp);simp only[Ze,Zf]at c1 c2;have hdr:Below W.heap.size W W.drew:=(Below.refl _ _).drew;have HP1d:=Za (HP1.o.old hdr);have HF1d:=Za (HF1.o.trans (Zp hdr hbl));have HL1d:=Za (HL1.o.step (Zp hdr hbl));clear hdr
 go_region_held3 (fun w'=>w'.cell? ⟨w.heap.size,1,none⟩=some (.string (Aa nm))∧w'.cell? ⟨w.heap.size,2,none⟩=some (.slice (some ⟨eb,off,none⟩) args.length sc)∧w'.cell? ⟨eb,off,none⟩=some (.int .i64 xa.kind)∧w'.cell? ⟨eb,off+1,none⟩=some (.int .i64 xa.op)∧w'.cell? ⟨eb,off+2,none⟩=some (.int .i64 xa.n)∧w'.cell? ⟨eb,off+3,none⟩=some (.string (Aa xa.name))∧w'.cell? ⟨eb,off+4,none⟩=some (.slice aa xa.args.length ac)) (first|(simp [*,Zd];done)|go_keep) (first|(go_at_call 30;refine(Eo [.s nm,.s [32,61,32],.e xa (.slice aa xa.args.length ac),.s [59]] _ _ b _ t _ (by simp) hb (HT.o.fr HF1d.o HP.o hb) HP1d.o (.s (.s (.e (HEA.o.keep (HF1d.o.keeps HP.o)) HNA.o HWA.o (.s (Gi.nil))))) (by omega) HF.o (by simp)).mono ?_;rintro r w2 ⟨he,hp2,hf2⟩;subst he;have gc1:w2.cell? ⟨w.heap.size,1,none⟩=some (.string (Aa nm)):=(HL1d.o.step hf2).cell 1 (by simp);have gc2:w2.cell? ⟨w.heap.size,2,none⟩=some (.slice (some ⟨eb,off,none⟩) args.length sc):=(HL1d.o.step hf2).cell 2 (by simp);have gz0:w2.cell? ⟨eb,off,none⟩=some (.int .i64 xa.kind):=hf2.keeps HP1d.o eb _ _ hebD (by simpa using z0);have gz1:w2.cell? ⟨eb,off+1,none⟩=some (.int .i64 xa.op):=hf2.keeps HP1d.o eb _ _ hebD (by simpa using z1);have gz2:w2.cell? ⟨eb,off+2,none⟩=some (.int .i64 xa.n):=hf2.keeps HP1d.o eb _ _ hebD (by simpa using z2);have gz3:w2.cell? ⟨eb,off+3,none⟩=some (.string (Aa xa.name)):=hf2.keeps HP1d.o eb _ _ hebD (by simpa using z3);have gz4:w2.cell? ⟨eb,off+4,none⟩=some (.slice aa xa.args.length ac):=hf2.keeps HP1d.o eb _ _ hebD (by simpa using z4);have HP2:=Za hp2;have HF2:=Za (HF1d.o.trans hf2);clear hp2 hf2))
 go_wp2_with fail
 go_end0
 exact⟨rfl,by simpa only[Zg,Zh,Zi,WIt.text,Zj,Zn]using HP2.o,HF2.o⟩
theorem pst_2(m:Nat)(ih:Jj m)(nm:Bs)(args:List Ex)(thn els:List St)(hx:De (m+1) (.mk 2 nm args thn els)=true)(b:Nat)(bs:Bs)(t:Nat)(s st se:Value)(w:World)(hb:3<b)(ht:Da w)(hp:Bt w b bs t)
  (hs:Aj (· <b) w args s) (hst:Ap (· <b) w thn st) (hse:Ap (· <b) w els se) (htm:t+(m+1)≤1000) (hf:Ci (bs.length+(Br t (.mk 2 nm args thn els)).length)):
  Calls Zb 114 #[.pointer (some ⟨b,0,none⟩),stV (.mk 2 nm args thn els) s st se] w (Hw w b bs t (Br t (.mk 2 nm args thn els))):=by
 obtain⟨hlen,hrng,hwl,hot,hoe⟩:=Ed hx;clear hrng;replace hlen:args.length=2:=by simp only[Ea,Zk,if_true,if_false,reduceIte,or_true,true_or,or_false,false_or,or_self]at hlen;omega
 rw[Cj,Pa]at hf ⊢;obtain⟨sa,sc,rfl⟩:=hs.shape;obtain⟨ta,tc,rfl⟩:=hst.shape;obtain⟨ua,uc,rfl⟩:=hse.shape;obtain⟨eb,off,av,rfl,hebD,hebl,z0,z1,z2,z3,z4,hea,hna⟩:=hs.at0 (by omega);obtain⟨aa,ac,rfl⟩:=hea.shape;have HWA:=Za (hwl _ (Bf (l:=args) (i:=0) (by omega)));have hl0:(0:Int)<(args.length:Int):=by omega
 have hl0n:0<args.length:=by omega
 obtain⟨cs,y0,y1,y2,y3,y4,hec,hnc⟩:=hs.at1 (by omega);obtain⟨ca,cc,rfl⟩:=hec.shape;have HWC:=Za (hwl _ (Bf (l:=args) (i:=1) (by omega)));have hl1':(1:Int)<(args.length:Int):=by omega
 have hl1n:1<args.length:=by omega
 generalize Ao args 1=xc at*;generalize Ao args 0=xa at*;show Calls _ _ #[.pointer (some ⟨b,0,none⟩),.agg #[.int .i64 2,.string (Aa nm),.slice (some ⟨eb,off,none⟩) args.length sc,.slice ta thn.length tc,.slice ua els.length uc]] _ _
 have IH:=Za ih;have HT:=Za ht;have HP:=Za hp;have HF:=Za hf;have HST:=Za hst;have HSE:=Za hse;have HOT:=Za hot;have HOE:=Za hoe;have HP1:=Za (hp.alloc (.cells #[.int .i64 2,.string (Aa nm),.slice (some ⟨eb,off,none⟩) args.length sc,.slice ta thn.length tc,.slice ua els.length uc] 56));have HF1:=Za (Zc hp (.cells #[.int .i64 2,.string (Aa nm),.slice (some ⟨eb,off,none⟩) args.length sc,.slice ta thn.length tc,.slice ua els.length uc] 56));have HL1:=Za (Loc.new hp [.int .i64 2,.string (Aa nm),.slice (some ⟨eb,off,none⟩) args.length sc,.slice ta thn.length tc,.slice ua els.length uc] 56);have HEA:=Za hea;have HNA:=Za hna;have HEC:=Za hec;have HNC:=Za hnc;clear ih ht hp hf hst hse hx hwl hot hoe hlen hs hea hna hec hnc;go_enter Zl,Zm
 go_wp2_with fail
 have z0:(w.alloc (.cells #[.int .i64 2,.string (Aa nm),.slice (some ⟨eb,off,none⟩) args.length sc,.slice ta thn.length tc,.slice ua els.length uc] 56)).cell? ⟨eb,off,none⟩=some (.int .i64 xa.kind):=by rw[Zd _ _ _ hebl];exact z0
 have z1:(w.alloc (.cells #[.int .i64 2,.string (Aa nm),.slice (some ⟨eb,off,none⟩) args.length sc,.slice ta thn.length tc,.slice ua els.length uc] 56)).cell? ⟨eb,off+1,none⟩=some (.int .i64 xa.op):=by rw[Zd _ _ _ hebl];exact z1
 have z2:(w.alloc (.cells #[.int .i64 2,.string (Aa nm),.slice (some ⟨eb,off,none⟩) args.length sc,.slice ta thn.length tc,.slice ua els.length uc] 56)).cell? ⟨eb,off+2,none⟩=some (.int .i64 xa.n):=by rw[Zd _ _ _ hebl];exact z2
 have z3:(w.alloc (.cells #[.int .i64 2,.string (Aa nm),.slice (some ⟨eb,off,none⟩) args.length sc,.slice ta thn.length tc,.slice ua els.length uc] 56)).cell? ⟨eb,off+3,none⟩=some (.string (Aa xa.name)):=by rw[Zd _ _ _ hebl];exact z3
 have z4:(w.alloc (.cells #[.int .i64 2,.string (Aa nm),.slice (some ⟨eb,off,none⟩) args.length sc,.slice ta thn.length tc,.slice ua els.length uc] 56)).cell? ⟨eb,off+4,none⟩=some (.slice aa xa.args.length ac):=by rw[Zd _ _ _ hebl];exact z4
 have y0:(w.alloc (.cells #[.int .i64 2,.string (Aa nm),.slice (some ⟨eb,off,none⟩) args.length sc,.slice ta thn.length tc,.slice ua els.length uc] 56)).cell? ⟨eb,off+5,none⟩=some (.int .i64 xc.kind):=by rw[Zd _ _ _ hebl];exact y0
 have y1:(w.alloc (.cells #[.int .i64 2,.string (Aa nm),.slice (some ⟨eb,off,none⟩) args.length sc,.slice ta thn.length tc,.slice ua els.length uc] 56)).cell? ⟨eb,off+5+1,none⟩=some (.int .i64 xc.op):=by rw[Zd _ _ _ hebl];exact y1
 have y2:(w.alloc (.cells #[.int .i64 2,.string (Aa nm),.slice (some ⟨eb,off,none⟩) args.length sc,.slice ta thn.length tc,.slice ua els.length uc] 56)).cell? ⟨eb,off+5+2,none⟩=some (.int .i64 xc.n):=by rw[Zd _ _ _ hebl];exact y2
 have y3:(w.alloc (.cells #[.int .i64 2,.string (Aa nm),.slice (some ⟨eb,off,none⟩) args.length sc,.slice ta thn.length tc,.slice ua els.length uc] 56)).cell? ⟨eb,off+5+3,none⟩=some (.string (Aa xc.name)):=by rw[Zd _ _ _ hebl];exact y3
 have y4:(w.alloc (.cells #[.int .i64 2,.string (Aa nm),.slice (some ⟨eb,off,none⟩) args.length sc,.slice ta thn.length tc,.slice ua els.length uc] 56)).cell? ⟨eb,off+5+4,none⟩=some (.slice ca xc.args.length cc):=by rw[Zd _ _ _ hebl];exact y4
 have hbl:=HP1.o.lt;have HXl:Hid (w.heap.size<(w.alloc (.cells #[.int .i64 2,.string (Aa nm),.slice (some ⟨eb,off,none⟩) args.length sc,.slice ta thn.length tc,.slice ua els.length uc] 56)).heap.size):=by show _<_;simp
 generalize w.alloc (.cells #[.int .i64 2,.string (Aa nm),.slice (some ⟨eb,off,none⟩) args.length sc,.slice ta thn.length tc,.slice ua els.length uc] 56)=W at*;have c1:=HL1.o.cell 1 (by simp);have c2:=HL1.o.cell 2 (by simp);simp only[Ze,Zf]at c1 c2;have hdr:Below W.heap.size W W.drew:=(Below.refl _ _).drew;have HP1d:=Za (HP1.o.old hdr);have HF1d:=Za (HF1.o.trans (Zp hdr hbl));have HL1d:=Za (HL1.o.step (Zp hdr hbl));clear hdr
 go_region_held3 (fun w'=>w'.cell? ⟨w.heap.size,1,none⟩=some (.string (Aa nm))∧w'.cell? ⟨w.heap.size,2,none⟩=some (.slice (some ⟨eb,off,none⟩) args.length sc)∧w'.cell? ⟨eb,off,none⟩=some (.int .i64 xa.kind)∧w'.cell? ⟨eb,off+1,none⟩=some (.int .i64 xa.op)∧w'.cell? ⟨eb,off+2,none⟩=some (.int .i64 xa.n)∧w'.cell? ⟨eb,off+3,none⟩=some (.string (Aa xa.name))∧w'.cell? ⟨eb,off+4,none⟩=some (.slice aa xa.args.length ac)∧w'.cell? ⟨eb,off+5,none⟩=some (.int .i64 xc.kind)∧w'.cell? ⟨eb,off+5+1,none⟩=some (.int .i64 xc.op)∧w'.cell? ⟨eb,off+5+2,none⟩=some (.int .i64 xc.n)∧w'.cell? ⟨eb,off+5+3,none⟩=some (.string (Aa xc.name))∧w'.cell? ⟨eb,off+5+4,none⟩=some (.slice ca xc.args.length cc)) (first|(simp [*,Zd];done)|go_keep) (first|(go_at_call 30;refine(Eo [.s nm,.s [91],.e xa (.slice aa xa.args.length ac),.s [93,32,61,32],.e xc (.slice ca xc.args.length cc),.s [59]] _ _ b _ t _ (by simp) hb (HT.o.fr HF1d.o HP.o hb) HP1d.o (.s (.s (.e (HEA.o.keep (HF1d.o.keeps HP.o)) HNA.o HWA.o (.s (.e (HEC.o.keep (HF1d.o.keeps HP.o)) HNC.o HWC.o (.s (Gi.nil))))))) (by omega) HF.o (by simp)).mono ?_;rintro r w2 ⟨he,hp2,hf2⟩;subst he;have gc1:w2.cell? ⟨w.heap.size,1,none⟩=some (.string (Aa nm)):=(HL1d.o.step hf2).cell 1 (by simp);have gc2:w2.cell? ⟨w.heap.size,2,none⟩=some (.slice (some ⟨eb,off,none⟩) args.length sc):=(HL1d.o.step hf2).cell 2 (by simp);have gz0:w2.cell? ⟨eb,off,none⟩=some (.int .i64 xa.kind):=hf2.keeps HP1d.o eb _ _ hebD (by simpa using z0);have gz1:w2.cell? ⟨eb,off+1,none⟩=some (.int .i64 xa.op):=hf2.keeps HP1d.o eb _ _ hebD (by simpa using z1);have gz2:w2.cell? ⟨eb,off+2,none⟩=some (.int .i64 xa.n):=hf2.keeps HP1d.o eb _ _ hebD (by simpa using z2);have gz3:w2.cell? ⟨eb,off+3,none⟩=some (.string (Aa xa.name)):=hf2.keeps HP1d.o eb _ _ hebD (by simpa using z3);have gz4:w2.cell? ⟨eb,off+4,none⟩=some (.slice aa xa.args.length ac):=hf2.keeps HP1d.o eb _ _ hebD (by simpa using z4);have gy0:w2.cell? ⟨eb,off+5,none⟩=some (.int .i64 xc.kind):=hf2.keeps HP1d.o eb _ _ hebD (by simpa using y0);have gy1:w2.cell? ⟨eb,off+5+1,none⟩=some (.int .i64 xc.op):=hf2.keeps HP1d.o eb _ _ hebD (by simpa using y1);have gy2:w2.cell? ⟨eb,off+5+2,none⟩=some (.int .i64 xc.n):=hf2.keeps HP1d.o eb _ _ hebD (by simpa using y2);have gy3:w2.cell? ⟨eb,off+5+3,none⟩=some (.string (Aa xc.name)):=hf2.keeps HP1d.o eb _ _ hebD (by simpa using y3);have gy4:w2.cell? ⟨eb,off+5+4,none⟩=some (.slice ca xc.args.length cc):=hf2.keeps HP1d.o eb _ _ hebD (by simpa using y4);have HP2:=Za hp2;have HF2:=Za (HF1d.o.trans hf2);clear hp2 hf2))
 go_wp2_with fail
 go_end0
 exact⟨rfl,by simpa only[Zg,Zh,Zi,WIt.text,Zj,Zn]using HP2.o,HF2.o⟩
theorem pst_3a(m:Nat)(ih:Jj m)(nm:Bs)(args:List Ex)(thn:List St)(hx:De (m+1) (.mk 3 nm args thn ([]:List St))=true)(b:Nat)(bs:Bs)(t:Nat)(s st se:Value)(w:World)(hb:3<b)(ht:Da w)(hp:Bt w b bs t)
  (hs:Aj (· <b) w args s) (hst:Ap (· <b) w thn st) (hse:Ap (· <b) w ([]:List St) se) (htm:t+(m+1)≤1000) (hf:Ci (bs.length+(Br t (.mk 3 nm args thn ([]:List St))).length)):
  Calls Zb 114 #[.pointer (some ⟨b,0,none⟩),stV (.mk 3 nm args thn ([]:List St)) s st se] w (Hw w b bs t (Br t (.mk 3 nm args thn ([]:List St)))):=by
 obtain⟨hlen,hrng,hwl,hot,hoe⟩:=Ed hx;clear hrng;replace hlen:args.length=1:=by simp only[Ea,Zk,if_true,if_false,reduceIte,or_true,true_or,or_false,false_or,or_self]at hlen;omega
 rw[Cj,Lr]at hf ⊢;simp only[List.isEmpty_nil,if_true,Zj]at hf ⊢;obtain⟨sa,sc,rfl⟩:=hs.shape;obtain⟨ta,tc,rfl⟩:=hst.shape;obtain⟨ua,uc,rfl⟩:=hse.shape;obtain⟨eb,off,av,rfl,hebD,hebl,z0,z1,z2,z3,z4,hea,hna⟩:=hs.at0 (by omega);obtain⟨aa,ac,rfl⟩:=hea.shape;have HWA:=Za (hwl _ (Bf (l:=args) (i:=0) (by omega)));have hl0:(0:Int)<(args.length:Int):=by omega
 have hl0n:0<args.length:=by omega
 generalize Ao args 0=xa at*;show Calls _ _ #[.pointer (some ⟨b,0,none⟩),.agg #[.int .i64 3,.string (Aa nm),.slice (some ⟨eb,off,none⟩) args.length sc,.slice ta thn.length tc,.slice ua ([]:List St).length uc]] _ _
 have IH:=Za ih;have HT:=Za ht;have HP:=Za hp;have HF:=Za hf;have HST:=Za hst;have HSE:=Za hse;have HOT:=Za hot;have HOE:=Za hoe;have HP1:=Za (hp.alloc (.cells #[.int .i64 3,.string (Aa nm),.slice (some ⟨eb,off,none⟩) args.length sc,.slice ta thn.length tc,.slice ua ([]:List St).length uc] 56));have HF1:=Za (Zc hp (.cells #[.int .i64 3,.string (Aa nm),.slice (some ⟨eb,off,none⟩) args.length sc,.slice ta thn.length tc,.slice ua ([]:List St).length uc] 56));have HL1:=Za (Loc.new hp [.int .i64 3,.string (Aa nm),.slice (some ⟨eb,off,none⟩) args.length sc,.slice ta thn.length tc,.slice ua ([]:List St).length uc] 56);have HEA:=Za hea;have HNA:=Za hna;clear ih ht hp hf hst hse hx hwl hot hoe hlen hs hea hna;go_enter Zl,Zm
 go_wp2_with fail
 refine(Eo [.s [105,102,32,40],.e xa (.slice aa xa.args.length ac),.s [41,32,123]] _ _ b _ t _ (by simp) hb (HT.o.fr HF1.o HP.o hb) HP1.o (.s (.e (HEA.o.keep (HF1.o.keeps HP.o)) HNA.o HWA.o (.s (Gi.nil)))) (by omega) HF.o.left (by simp)).mono ?_;rintro r w2 ⟨rfl,hp2,hf2⟩;have HP2:=Za hp2;have HF2:=Za (HF1.o.trans hf2);have HL2:=Za (HL1.o.step hf2);clear hp2 hf2;clear z0 z1 z2 z3 z4;have c3:=HL2.o.cell 3 (by simp);simp only[Ze,Zf]at c3;go_wp2_with fail
 refine(IH.out thn HOT.o b _ t _ _ hb (HT.o.fr HF2.o HP.o hb) HP2.o (HST.o.keep (HF2.o.keeps HP.o)) (by omega) HF.o.right.left).mono ?_;rintro r w3 ⟨rfl,hp3,hf3⟩;have HP3:=Za hp3;have HF3:=Za (HF2.o.trans hf3);have HL3:=Za (HL2.o.step hf3);clear hp3 hf3 c3;have c4:=HL3.o.cell 4 (by simp);simp only[Ze,Zf]at c4;go_wp2_with fail
 refine(Eo [.s [125]] _ _ b _ t _ (by simp) hb (HT.o.fr HF3.o HP.o hb) HP3.o (.s (Gi.nil)) (by omega) HF.o.right.right (by simp)).mono ?_;rintro r w4 ⟨rfl,hp4,hf4⟩;have HP4:=Za hp4;have HF4:=Za (HF3.o.trans hf4);have HL4:=Za (HL3.o.step hf4);clear hp4 hf4;go_wp2_with fail
 go_end0
 exact⟨rfl,by simpa only[Zg,Zh,Zi,WIt.text,Zj,Zn]using HP4.o,HF4.o⟩
theorem pst_3b(m:Nat)(ih:Jj m)(nm:Bs)(args:List Ex)(thn:List St)(e0:St)(el:List St)(hx:De (m+1) (.mk 3 nm args thn (e0::el))=true)(b:Nat)(bs:Bs)(t:Nat)(s st se:Value)(w:World)(hb:3<b)(ht:Da w)(hp:Bt w b bs t)
  (hs:Aj (· <b) w args s) (hst:Ap (· <b) w thn st) (hse:Ap (· <b) w (e0::el) se) (htm:t+(m+1)≤1000) (hf:Ci (bs.length+(Br t (.mk 3 nm args thn (e0::el))).length)):
  Calls Zb 114 #[.pointer (some ⟨b,0,none⟩),stV (.mk 3 nm args thn (e0::el)) s st se] w (Hw w b bs t (Br t (.mk 3 nm args thn (e0::el)))):=by
 obtain⟨hlen,hrng,hwl,hot,hoe⟩:=Ed hx;clear hrng;replace hlen:args.length=1:=by simp only[Ea,Zk,if_true,if_false,reduceIte,or_true,true_or,or_false,false_or,or_self]at hlen;omega
 rw[Cj,Lr]at hf ⊢;have E3:((if(e0::el).isEmpty=true then([]:Bs)else ln t [[125,32,101,108,115,101,32,123]]++Ag (t+1) (e0::el))++ln t [[125]])=ln t [[125,32,101,108,115,101,32,123]]++(Ag (t+1) (e0::el)++ln t [[125]]):=by simp
 rw[E3]at hf ⊢;clear E3;obtain⟨sa,sc,rfl⟩:=hs.shape;obtain⟨ta,tc,rfl⟩:=hst.shape;obtain⟨ua,uc,rfl⟩:=hse.shape;obtain⟨eb,off,av,rfl,hebD,hebl,z0,z1,z2,z3,z4,hea,hna⟩:=hs.at0 (by omega);obtain⟨aa,ac,rfl⟩:=hea.shape;have HWA:=Za (hwl _ (Bf (l:=args) (i:=0) (by omega)));have hl0:(0:Int)<(args.length:Int):=by omega
 have hl0n:0<args.length:=by omega
 generalize Ao args 0=xa at*;show Calls _ _ #[.pointer (some ⟨b,0,none⟩),.agg #[.int .i64 3,.string (Aa nm),.slice (some ⟨eb,off,none⟩) args.length sc,.slice ta thn.length tc,.slice ua (e0::el).length uc]] _ _
 have IH:=Za ih;have HT:=Za ht;have HP:=Za hp;have HF:=Za hf;have HST:=Za hst;have HSE:=Za hse;have HOT:=Za hot;have HOE:=Za hoe;have HP1:=Za (hp.alloc (.cells #[.int .i64 3,.string (Aa nm),.slice (some ⟨eb,off,none⟩) args.length sc,.slice ta thn.length tc,.slice ua (e0::el).length uc] 56));have HF1:=Za (Zc hp (.cells #[.int .i64 3,.string (Aa nm),.slice (some ⟨eb,off,none⟩) args.length sc,.slice ta thn.length tc,.slice ua (e0::el).length uc] 56));have HL1:=Za (Loc.new hp [.int .i64 3,.string (Aa nm),.slice (some ⟨eb,off,none⟩) args.length sc,.slice ta thn.length tc,.slice ua (e0::el).length uc] 56);have HEA:=Za hea;have HNA:=Za hna;clear ih ht hp hf hst hse hx hwl hot hoe hlen hs hea hna;have hpos:(0:Int)<((e0::el).length:Int):=by simp only[List.length_cons];omega
 generalize hels:e0::el=els at*;have HELS:=Za hels;clear hels;go_enter Zl,Zm
 go_wp2_with fail
 refine(Eo [.s [105,102,32,40],.e xa (.slice aa xa.args.length ac),.s [41,32,123]] _ _ b _ t _ (by simp) hb (HT.o.fr HF1.o HP.o hb) HP1.o (.s (.e (HEA.o.keep (HF1.o.keeps HP.o)) HNA.o HWA.o (.s (Gi.nil)))) (by omega) HF.o.left (by simp)).mono ?_;rintro r w2 ⟨rfl,hp2,hf2⟩;have HP2:=Za hp2;have HF2:=Za (HF1.o.trans hf2);have HL2:=Za (HL1.o.step hf2);clear hp2 hf2;clear z0 z1 z2 z3 z4;have c3:=HL2.o.cell 3 (by simp);simp only[Ze,Zf]at c3;go_wp2_with fail
 refine(IH.out thn HOT.o b _ t _ _ hb (HT.o.fr HF2.o HP.o hb) HP2.o (HST.o.keep (HF2.o.keeps HP.o)) (by omega) HF.o.right.left).mono ?_;rintro r w3 ⟨rfl,hp3,hf3⟩;have HP3:=Za hp3;have HF3:=Za (HF2.o.trans hf3);have HL3:=Za (HL2.o.step hf3);clear hp3 hf3 c3;have c4:=HL3.o.cell 4 (by simp);simp only[Ze,Zf]at c4;go_wp2_with fail
 refine(Eo [.s [125,32,101,108,115,101,32,123]] _ _ b _ t _ (by simp) hb (HT.o.fr HF3.o HP.o hb) HP3.o (.s (Gi.nil)) (by omega) HF.o.right.right.left (by simp)).mono ?_;rintro r w4 ⟨rfl,hp4,hf4⟩;have HP4:=Za hp4;have HF4:=Za (HF3.o.trans hf4);have HL4:=Za (HL3.o.step hf4);clear hp4 hf4;clear c4;have c4:=HL4.o.cell 4 (by simp);simp only[Ze,Zf]at c4;go_wp2_with fail
 refine(IH.out els HOE.o b _ t _ _ hb (HT.o.fr HF4.o HP.o hb) HP4.o (HSE.o.keep (HF4.o.keeps HP.o)) (by omega) HF.o.right.right.right.left).mono ?_;rintro r w5 ⟨rfl,hp5,hf5⟩;have HP5:=Za hp5;have HF5:=Za (HF4.o.trans hf5);have HL5:=Za (HL4.o.step hf5);clear hp5 hf5 c4;go_wp2_with fail
 refine(Eo [.s [125]] _ _ b _ t _ (by simp) hb (HT.o.fr HF5.o HP.o hb) HP5.o (.s (Gi.nil)) (by omega) HF.o.right.right.right.right (by simp)).mono ?_;rintro r w6 ⟨rfl,hp6,hf6⟩;have HP6:=Za hp6;have HF6:=Za (HF5.o.trans hf6);have HL6:=Za (HL5.o.step hf6);clear hp6 hf6;go_wp2_with fail
 go_end0
 exact⟨rfl,by simpa only[Zg,Zh,Zi,WIt.text,Zj,Zn]using HP6.o,HF6.o⟩
theorem pst_4(m:Nat)(ih:Jj m)(nm:Bs)(args:List Ex)(thn els:List St)(hx:De (m+1) (.mk 4 nm args thn els)=true)(b:Nat)(bs:Bs)(t:Nat)(s st se:Value)(w:World)(hb:3<b)(ht:Da w)(hp:Bt w b bs t)
  (hs:Aj (· <b) w args s) (hst:Ap (· <b) w thn st) (hse:Ap (· <b) w els se) (htm:t+(m+1)≤1000) (hf:Ci (bs.length+(Br t (.mk 4 nm args thn els)).length)):
  Calls Zb 114 #[.pointer (some ⟨b,0,none⟩),stV (.mk 4 nm args thn els) s st se] w (Hw w b bs t (Br t (.mk 4 nm args thn els))):=by
 obtain⟨hlen,hrng,hwl,hot,hoe⟩:=Ed hx;clear hrng;replace hlen:args.length=1:=by simp only[Ea,Zk,if_true,if_false,reduceIte,or_true,true_or,or_false,false_or,or_self]at hlen;omega
 rw[Cj,Ot]at hf ⊢;obtain⟨sa,sc,rfl⟩:=hs.shape;obtain⟨ta,tc,rfl⟩:=hst.shape;obtain⟨ua,uc,rfl⟩:=hse.shape;obtain⟨eb,off,av,rfl,hebD,hebl,z0,z1,z2,z3,z4,hea,hna⟩:=hs.at0 (by omega);obtain⟨aa,ac,rfl⟩:=hea.shape;have HWA:=Za (hwl _ (Bf (l:=args) (i:=0) (by omega)));have hl0:(0:Int)<(args.length:Int):=by omega
 have hl0n:0<args.length:=by omega
 generalize Ao args 0=xa at*;show Calls _ _ #[.pointer (some ⟨b,0,none⟩),.agg #[.int .i64 4,.string (Aa nm),.slice (some ⟨eb,off,none⟩) args.length sc,.slice ta thn.length tc,.slice ua els.length uc]] _ _
 have IH:=Za ih;have HT:=Za ht;have HP:=Za hp;have HF:=Za hf;have HST:=Za hst;have HSE:=Za hse;have HOT:=Za hot;have HOE:=Za hoe;have HP1:=Za (hp.alloc (.cells #[.int .i64 4,.string (Aa nm),.slice (some ⟨eb,off,none⟩) args.length sc,.slice ta thn.length tc,.slice ua els.length uc] 56));have HF1:=Za (Zc hp (.cells #[.int .i64 4,.string (Aa nm),.slice (some ⟨eb,off,none⟩) args.length sc,.slice ta thn.length tc,.slice ua els.length uc] 56));have HL1:=Za (Loc.new hp [.int .i64 4,.string (Aa nm),.slice (some ⟨eb,off,none⟩) args.length sc,.slice ta thn.length tc,.slice ua els.length uc] 56);have HEA:=Za hea;have HNA:=Za hna;clear ih ht hp hf hst hse hx hwl hot hoe hlen hs hea hna;go_enter Zl,Zm
 go_wp2_with fail
 refine(Eo [.s [119,104,105,108,101,32,40],.e xa (.slice aa xa.args.length ac),.s [41,32,123]] _ _ b _ t _ (by simp) hb (HT.o.fr HF1.o HP.o hb) HP1.o (.s (.e (HEA.o.keep (HF1.o.keeps HP.o)) HNA.o HWA.o (.s (Gi.nil)))) (by omega) HF.o.left (by simp)).mono ?_;rintro r w2 ⟨rfl,hp2,hf2⟩;have HP2:=Za hp2;have HF2:=Za (HF1.o.trans hf2);have HL2:=Za (HL1.o.step hf2);clear hp2 hf2;clear z0 z1 z2 z3 z4;have c3:=HL2.o.cell 3 (by simp);simp only[Ze,Zf]at c3;go_wp2_with fail
 refine(IH.out thn HOT.o b _ t _ _ hb (HT.o.fr HF2.o HP.o hb) HP2.o (HST.o.keep (HF2.o.keeps HP.o)) (by omega) HF.o.right.left).mono ?_;rintro r w3 ⟨rfl,hp3,hf3⟩;have HP3:=Za hp3;have HF3:=Za (HF2.o.trans hf3);have HL3:=Za (HL2.o.step hf3);clear hp3 hf3 c3;go_wp2_with fail
 refine(Eo [.s [125]] _ _ b _ t _ (by simp) hb (HT.o.fr HF3.o HP.o hb) HP3.o (.s (Gi.nil)) (by omega) HF.o.right.right (by simp)).mono ?_;rintro r w4 ⟨rfl,hp4,hf4⟩;have HP4:=Za hp4;have HF4:=Za (HF3.o.trans hf4);have HL4:=Za (HL3.o.step hf4);clear hp4 hf4;go_wp2_with fail
 go_end0
 exact⟨rfl,by simpa only[Zg,Zh,Zi,WIt.text,Zj,Zn]using HP4.o,HF4.o⟩
theorem Ap.cellAt {D:Nat→Prop}{w:World}{l:List St}{a:Option Addr}{n cap:Nat}(h:Ap D w l (.slice a n cap))(i:Nat)(hl:i<l.length):∃b off s t e,a=some ⟨b,off,none⟩∧D b∧b<w.heap.size∧
  w.cell? ⟨b,off+i*5,none⟩=some (.int .i64 (Db l i).kind)∧w.cell? ⟨b,off+i*5+1,none⟩=some (.string (Aa (Db l i).name))∧w.cell? ⟨b,off+i*5+2,none⟩=some s∧
  w.cell? ⟨b,off+i*5+3,none⟩=some t∧w.cell? ⟨b,off+i*5+4,none⟩=some e∧Aj D w (Db l i).args s∧Ap D w (Db l i).thn t∧Ap D w (Db l i).els e:=by
 cases h with
 |mk _ _ _ b off sa st se hcap hfit ha h0 h1 h2 h3 h4 ea et ee=>
  rcases ha with ha|⟨ha,hD⟩
  ·omega
  ·exact⟨b,off,sa i,st i,se i,ha,hD,Zt _ _ (h0 i hl),h0 i hl,h1 i hl,h2 i hl,h3 i hl,h4 i hl,ea i hl,et i hl,ee i hl⟩
theorem Ap.fits {D:Nat→Prop}{w:World}{l:List St}{v:Value}(h:Ap D w l v):Ci l.length:=by
 cases h with
 |mk _ _ _ b off sa st se hcap hfit=>exact hfit
theorem gW(m:Nat)(ih:Jj m):cZ (m+1):=by
 intro x hx b bs t s st se w hb ht hp hs hst hse htm hf;obtain⟨k,nm,args,thn,els⟩:=x;have hk:=(Ed hx).2.1;have hk':k=1∨k=2∨k=3∨k=4∨k=5∨k=6∨k=7∨k=8∨k=9∨k=10:=by omega
 rcases hk' with rfl|rfl|rfl|rfl|rfl|rfl|rfl|rfl|rfl|rfl
 ·exact pst_1 m ih nm args thn els hx b bs t s st se w hb ht hp hs hst hse htm hf
 ·exact pst_2 m ih nm args thn els hx b bs t s st se w hb ht hp hs hst hse htm hf
 ·cases els with
  |nil=>exact pst_3a m ih nm args thn hx b bs t s st se w hb ht hp hs hst hse htm hf
  |cons e0 el=>exact pst_3b m ih nm args thn e0 el hx b bs t s st se w hb ht hp hs hst hse htm hf
 ·exact pst_4 m ih nm args thn els hx b bs t s st se w hb ht hp hs hst hse htm hf
 ·exact pst_5 m ih nm args thn els hx b bs t s st se w hb ht hp hs hst hse htm hf
 ·exact pst_6 m ih nm args thn els hx b bs t s st se w hb ht hp hs hst hse htm hf
 ·exact pst_7 m ih nm args thn els hx b bs t s st se w hb ht hp hs hst hse htm hf
 ·exact pst_8 m ih nm args thn els hx b bs t s st se w hb ht hp hs hst hse htm hf
 ·exact pst_9 m ih nm args thn els hx b bs t s st se w hb ht hp hs hst hse htm hf
 ·exact pst_10 m ih nm args thn els hx b bs t s st se w hb ht hp hs hst hse htm hf
theorem Bt.frozen {w:World}{b:Nat}{bs:Bs}{t:Int}(h:Bt w b bs t):w.frozen? ⟨b,2,none⟩=false:=by
 obtain⟨p,v,hb,_⟩:=h;exact Lib.frozen_of_heap hb 2
theorem Bt.set {w:World}{b:Nat}{bs:Bs}{t:Int}(h:Bt w b bs t)(u:Int):Bt (w.setCell ⟨b,2,none⟩ (.int .i64 u)) b bs u∧PFr b w (w.setCell ⟨b,2,none⟩ (.int .i64 u)):=by
 obtain⟨p,v,hb,hq,hown⟩:=h;have hb':(w.setCell ⟨b,2,none⟩ (.int .i64 u)).heap[b]? =some (.cells #[p,v,.int .i64 u] 76 (0,0)):=by
  simp [World.setCell,Array.getElem?_modify,hb]
 refine⟨⟨p,v,hb',hq,?_⟩,⟨rfl,rfl,rfl,by simp [World.setCell],fun k _ hk _=>Below.heap_setCell _ _ _ _ hk,.inl (by simp [own,hb,hb'])⟩⟩;refine hown.kept (row:=some b) ⟨rfl,rfl,rfl,by simp [World.setCell],fun k _ hk=>Below.heap_setCell _ _ _ _ (fun e=>hk (by simp [e]))⟩ (Or.inr ?_);intro e;have:=hown.lt b e;omega
theorem Yb(m:Nat)(ih:cZ m):Jj m:=by
 intro l hl b bs t v w hb ht hp hs htm hf;obtain⟨sa,sc,rfl⟩:=hs.shape;have hl63:=hs.fits.lt;have c2:=hp.tab;have fz:=hp.frozen;have hset:=hp.set (t+1);have IH:=Za ih;have HT:=Za ht;have HP:=Za hp;have HS:=Za hs;have HF:=Za hf;have HO:=Za hl;have HP1:Hid (Bt (w.setCell ⟨b,2,none⟩ (.int .i64 (t+1))) b bs ((t+1:Nat):Int)):=by have q:=hset.1;show Bt _ _ _ _;rwa[show((t+1:Nat):Int)=(t:Int)+1 from by omega]
 have HF1:=Za hset.2;clear ih ht hp hs hf hl hset;have ht0:(0:Int)≤(t:Int):=by omega
 have ht1:(t:Int)≤1000:=by omega
 go_enter func70,ntmps70
 go_wp2_with fail
 go_loopw [5,15] (fun _ s15 wr=> ∃k:Nat,k≤l.length∧s15=.int .i64 k∧Bt wr b (bs++Ag (t+1) (l.take k)) ((t+1:Nat):Int)∧PFr b w wr) (fun _ s15 _=>l.length-(intOf s15).toNat)
 case atStart=>exact⟨0,Nat.zero_le _,rfl,by simpa [Ag]using HP1.o,HF1.o⟩
 case round=>
  obtain⟨k,hk,rfl,hpk,hfr⟩:=hrel;have HPK:=Za hpk;have HFR:=Za hfr;have hbl:=hpk.lt;have c2:=hpk.tab;have fz:=hpk.frozen;have hset:=hpk.set t;clear hpk hfr
  by_cases hlt:k<l.length
  ·clear hset c2 fz
   obtain⟨eb,off,es,et,ee,rfl,hD,hebl,z0,z1,z2,z3,z4,hes,het,hee⟩:=(HS.o.keep (HFR.o.keeps HP.o)).cellAt k hlt;obtain⟨a1,a2,rfl⟩:=hes.shape;obtain⟨t1,t2,rfl⟩:=het.shape;obtain⟨u1,u2,rfl⟩:=hee.shape;have hok:De m (Db l k)=true:=List.all_eq_true.1 HO.o _ (Dy hlt);have hnext:=Za (Nb (t+1) l k hlt);have hfit:Hid (Ci ((bs++Ag (t+1) (l.take k)).length+(Br (t+1) (Db l k)).length)):=by
    refine HF.o.mono ?_;have e:=Ku (t+1) l (k+1);rw[hnext.out,Zo]at e;rw[Zo];omega
   have HES:=Za hes;have HET:=Za het;have HEE:=Za hee;have HOK:=Za hok;clear hes het hee hok hD;generalize Db l k=x at*;have HP2:=Za (HPK.o.alloc (.cells #[.int .i64 x.kind,.string (Aa x.name),.slice a1 x.args.length a2,.slice t1 x.thn.length t2,.slice u1 x.els.length u2] 56));have HF2:=Za (HFR.o.trans (Zc HPK.o (.cells #[.int .i64 x.kind,.string (Aa x.name),.slice a1 x.args.length a2,.slice t1 x.thn.length t2,.slice u1 x.els.length u2] 56)));have HK2:=Za ((Zc HPK.o (.cells #[.int .i64 x.kind,.string (Aa x.name),.slice a1 x.args.length a2,.slice t1 x.thn.length t2,.slice u1 x.els.length u2] 56)).keeps HPK.o);go_wp2_with fail
   refine(IH.out x HOK.o b _ (t+1) (.slice a1 x.args.length a2) (.slice t1 x.thn.length t2) (.slice u1 x.els.length u2) _ hb (HT.o.fr HF2.o HP.o hb) HP2.o (HES.o.keep HK2.o) (HET.o.keep HK2.o) (HEE.o.keep HK2.o) (by omega) hfit.out).mono ?_;rintro r w3 ⟨rfl,hp3,hf3⟩;have HP3:=Za hp3;have HF3:=Za (HF2.o.trans hf3);clear hp3 hf3 z0 z1 z2 z3 z4;go_wp2_with fail
   go_roundw
   case rel=>exact⟨k+1,by omega,by go_num,by rw[hnext.out,←Zg];exact HP3.o,HF3.o⟩
   case measure=>simp [intOf];omega
  ·have HSET:=Za hset;clear hset
   have ec:((t+1:Nat):Int)-1=t:=by omega
   have e:l.take k=l:=Zq (by omega);rw[e]at HSET;have EC:=Za ec;clear e ec;go_wp2_with fail
   go_end0
   refine⟨rfl,?_,?_⟩
   ·first|exact HSET.o.1|(have q:=HSET.o.1;simpa [EC.out]using q)
   ·first|exact HFR.o.trans HSET.o.2|(have q:=HFR.o.trans HSET.o.2;simpa [EC.out]using q)
theorem dE:∀m,cZ m∧Jj m
 |0=>have a:cZ 0:=fun x hx=>by simp [De]at hx
  ⟨a,Yb 0 a⟩
 |m+1=>have a:=gW m (dE m).2;⟨a,Yb (m+1) a⟩
theorem cellsByte:Tryz.prog.cellsOf 5=1:=by kernel_rfl
theorem Ms(b:Nat)(bs:Bs)(t:Int)(w:World)(hp:Bt w b bs t)(h0:bs≠[]):
  Calls Zb 33 #[.pointer (some ⟨b,0,none⟩)] w fun e w'=>e=.returned (.string (Aa bs))∧Below b w w':=by
 obtain⟨p,v,hbk,hq,hown⟩:=hp;have hl0:bs.length≠0:=by simpa using h0
 obtain⟨g,cap,cur,rfl,hbg,hg,hnc,hcm,hcs,htake⟩:∃g cap cur,v=.slice (some ⟨g,0,none⟩) bs.length cap∧b+1≤g∧w.heap[g]? =some (.cells cur 5 (0,0))∧bs.length≤cap∧cap≤maxLen∧cur.size=cap*1∧cur.toList.take (bs.length*1)=Lib.byteCells bs:=by
  rcases hown.2 with⟨_,hz⟩|⟨g,cap,cur,hv,r⟩
  ·exact absurd hz hl0
  ·exact⟨g,cap,cur,hv,r⟩
 have c1:w.drew.cell? ⟨b,1,none⟩=some (.slice (some ⟨g,0,none⟩) bs.length cap):=by
  have:w.drew.heap[b]? =some (.cells #[p,.slice (some ⟨g,0,none⟩) bs.length cap,.int .i64 t] 76 (0,0)):=hbk;rw[Lib.cell_of_heap this];rfl
 have hSD:(Builtin.unsafeSliceData_ #[72] 111 #[.slice (some ⟨g,0,none⟩) bs.length cap]).run Zb w.drew=.ok (.pointer (some ⟨g,0,none⟩)) w.drew:=
  Lib.run_unsafeSliceData_row _ _ _ _ _ _ (by omega)
 have hUS:(Builtin.unsafeString_ #[111,3] 9 #[.pointer (some ⟨g,0,none⟩),.int .i64 bs.length]).run Zb w.drew=.ok (.string (Aa bs)) (w.drew.freeze ⟨g,0,none⟩ bs.length):=by
  refine Lib.run_unsafeString_row w.drew 111 3 9 5 underlying111 cellsByte g cur.size (by have hg':w.drew.heap[g]? =some (.cells cur 5 (0,0)):=hg;simp [World.shape?,hg']) bs h0 (by omega) (by unfold maxLen at hcm;omega) ?_;intro j x hx;have:=hown.cells (g:=g) rfl j (.int .u8 x.toNat) (by simp [Lib.byteCells,hx]);exact this
 have HG:Hid (b≤g):=by show _≤_;omega
 clear hbk hown hg hcs htake hcm hnc h0 hl0 hbg hq;have mixed:Tryz.prog.follows .mixedOrders=true:=by kernel_rfl
 go_enter func33,ntmps33
 go_wp2
 go_region_o
 all_goals(go_wp2;go_ret;exact⟨rfl,Lib.below_freeze (Below.drew (Below.refl b w)) (p:=⟨g,0,none⟩) HG.o _⟩)
theorem Bt.new(w:World):Bt (w.alloc (.cells #[.pointer none,.slice none 0 0,.int .i64 0] 76)) w.heap.size [] 0:=by
 refine⟨.pointer none,.slice none 0 0,Array.getElem?_push_size,.inl rfl,rfl,.inl ⟨rfl,rfl⟩⟩
theorem itoa_ne(n:Int):Lib.itoa n≠[]:=by
 unfold Lib.itoa;split
 ·simp
 ·intro h
  have h1:=Lib.decDigits_length n.toNat;rw[h]at h1;have:=Lib.nDigits_pos n.toNat;simp at h1;omega
theorem dW {e:Ex}(h:Bb e=true):Ae e≠[]:=by
 have hk:=Kd (Cc h).1;have hw:=(Cc h).1;obtain⟨k,o,n,nm,args⟩:=e;simp only[Ex.kind]at hk;rcases hk with rfl|rfl|rfl|rfl|rfl|rfl|rfl
 ·rw[Lc];exact itoa_ne n
 ·rw[Jr];intro h;subst h;simp [Bw,Du,Ex.kind,Ex.name,An]at hw
 ·have hl:0<args.length:=by simp [Bw,Ca,Ex.kind,Ex.args]at hw;omega
  rw[Jc o n nm args hl];have h0:Du (.mk 3 o n nm args)=true:=by unfold Bw at hw;simp only[Zr]at hw;exact hw.1.1.1.1
  have h1:decide (o=17∨o=18∨o=19)=true:=h0;have h2:o=17∨o=18∨o=19:=of_decide_eq_true h1;rcases h2 with rfl|rfl|rfl<;>simp [Ck]
 ·have hl:1<args.length:=by simp [Bw,Ca,Ex.kind,Ex.args]at hw;omega
  rw[Ja o n nm args hl];simp
 ·rw[Iu];simp
 ·have hl:0<args.length:=by simp [Bw,Ca,Ex.kind,Ex.args]at hw;omega
  rw[Iv o n nm args hl];simp
 ·rw[Ju];simp
theorem Lf(e:Ex)(s:Value)(w:World)(hb:3<w.heap.size)(ht:Da w)(hs:Aj (· <w.heap.size) w e.args s)(hn:I64 e.n)(hr:Be e=true)(hf:Ci (Ae e).length):
  Calls Zb 18 #[exV e s] w fun r w'=>r=.returned (.tuple #[.string (Aa (Ae e)),.int .i64 0])∧Below w.heap.size w w':=by
 obtain⟨sa,sc,rfl⟩:=hs.shape;have hw:Bb e=true:=by unfold Be at hr;exact((Zr _ _).mp hr).2
 have hb1:Below w.heap.size w (w.alloc (.cells #[.int .i64 e.kind,.int .i64 e.op,.int .i64 e.n,.string (Aa e.name),.slice sa e.args.length sc] 31)):=bA;have HB1:=Za hb1;have HT:=Za ht;have HS:=Za hs;have HN:=Za hn;have HR:=Za hr;have HF:=Za hf;have HW:=Za hw;have HG:=Za hb;clear hb1 ht hs hn hr hf hw hb;go_enter func18,ntmps18
 go_wp2_with fail
 refine(Fz e (· <w.heap.size) _ _ (HS.o.old HB1.o)).mono ?_;rintro r w1 ⟨rfl,hb1⟩;rw[HR.o];have hz:w.heap.size<w1.heap.size:=by have:=hb1.size;simp at this;omega
 have HB2:=Za (HB1.o.trans (hb1.mono (by simp)));have c0:w1.cell? ⟨w.heap.size,0,none⟩=some (.int .i64 e.kind):=Ac hb1 (by simp);have c1:w1.cell? ⟨w.heap.size,1,none⟩=some (.int .i64 e.op):=Ac hb1 (by simp);have c2:w1.cell? ⟨w.heap.size,2,none⟩=some (.int .i64 e.n):=Ac hb1 (by simp);have c3:w1.cell? ⟨w.heap.size,3,none⟩=some (.string (Aa e.name)):=Ac hb1 (by simp);have c4:w1.cell? ⟨w.heap.size,4,none⟩=some (.slice sa e.args.length sc):=Ac hb1 (by simp);clear hb1;go_wp2_with fail
 have HB3:Hid (Below w.heap.size w (w1.alloc (.cells #[.pointer none,.slice none 0 0,.int .i64 0] 76))):=HB2.o.alloc (by omega) _;have HK:Hid (Aj (· <w1.heap.size) (w1.alloc (.cells #[.pointer none,.slice none 0 0,.int .i64 0] 76)) e.args (.slice sa e.args.length sc)):=(HS.o.old HB3.o).mono (fun b h=>Nat.lt_trans h hz);refine(Qq _ e (Nat.le_refl _) w1.heap.size [] 0 _ _ (Nat.lt_trans HG.o hz) (HT.o.keep (HB3.o.block _ HG.o)) (Bt.new w1) HK.o HN.o HW.o (by simpa using HF.o)).mono ?_;rintro r w2 ⟨rfl,hp2,hf2⟩;have HP2:=Za hp2;have HB4:=Za (HB3.o.trans ((hf2.below (Bt.new w1)).mono (Nat.le_of_lt hz)));clear hp2 hf2 c0 c1 c2 c3 c4;go_wp2_with fail
 refine(Ms _ _ _ _ HP2.o (by simpa using dW HW.o)).mono ?_;rintro r w3 ⟨rfl,hb3⟩;have HB5:=Za (HB4.o.trans (hb3.mono (Nat.le_of_lt hz)));clear hb3;go_wp2_with fail
 go_ret2
 exact⟨by simp,HB5.o⟩
theorem Mg(e:Ex)(D:Nat→Prop)(s:Value)(w:World)(hs:Aj D w e.args s)(hr:Be e=false):
  Calls Zb 18 #[exV e s] w fun r w'=>r=.returned (.tuple #[.string (Aa []),.int .i64 1])∧Below w.heap.size w w':=by
 obtain⟨sa,sc,rfl⟩:=hs.shape;have hb1:Below w.heap.size w (w.alloc (.cells #[.int .i64 e.kind,.int .i64 e.op,.int .i64 e.n,.string (Aa e.name),.slice sa e.args.length sc] 31)):=bA;have HB1:=Za hb1;have HS:=Za hs;have HR:=Za hr;clear hb1 hs hr;go_enter func18,ntmps18
 go_wp2_with fail
 refine(Fz e D _ _ (HS.o.old HB1.o)).mono ?_;rintro r w1 ⟨rfl,hb1⟩;rw[HR.o];have HB2:=Za (HB1.o.trans (hb1.mono (by simp)));clear hb1;go_wp2_with fail
 go_ret2
 exact⟨rfl,HB2.o⟩
theorem fA(f:Bs→Bs)(l:List Bs)(k:Nat)(h:k<l.length):(l.take (k+1)).map f=(l.take k).map f++[f (l.getD k [])]:=by
 rw[Zu h,List.map_append,Zh,Zi];simp [Zv h]
theorem Vx(p:Bs)(X b:Nat)(bs:Bs)(t:Int)(w:World)(hc:w.cell? ⟨X,0,none⟩=some (.pointer (some ⟨b,0,none⟩)))(hp:Bt w b bs t)(hf:Ci (bs.length+(Fm p).length)):
  Calls Zb 69 #[.string (Aa p),.pointer (some ⟨X,0,none⟩)] w (Hw w b bs t (Fm p)):=by
 have HP:=Za hp;have HF:=Za hf;clear hp hf;go_enter func69,ntmps69
 go_wp2_with fail
 refine(put2 [105,110,116,32] p _ _ b bs t _ (by simp) HP.o HF.o).mono ?_;rintro r w1 ⟨rfl,hp1,hf1⟩;have HP1:=Za hp1;have HF1:=Za hf1;clear hp1 hf1;go_wp2_with fail
 go_end0
 exact⟨rfl,HP1.o,HF1.o⟩
theorem dJ(l:List Bs)(X b:Nat)(bs:Bs)(t:Int)(s:Value)(w:World)(hX:Loc w b X [.pointer (some ⟨b,0,none⟩)])(hp:Bt w b bs t)(hs:Ay (· <b) w l s)(hf:Ci (bs.length+(Ba (l.map Fm)).length)):
  Calls Zb 68 #[.pointer (some ⟨b,0,none⟩),s,.func (.func 69) #[] #[.pointer (some ⟨X,0,none⟩)]] w (Hw w b bs t (Ba (l.map Fm))):=by
 have HX:=Za hX;have HP:=Za hp;have HF:=Za hf;obtain⟨sa,sc,rfl⟩:=hs.shape;have hl63:=hs.fits.lt;have HS:=Za hs;clear hX hs hf hp;go_enter func68,ntmps68
 go_wp2_with fail
 go_loopw [6,7,10] (fun _ _ s10 wr=> ∃k:Nat,k≤l.length∧s10=.int .i64 k∧Bt wr b (bs++Ba ((l.take k).map Fm)) t∧PFr b w wr) (fun _ _ s10 _=>l.length-(intOf s10).toNat)
 case atStart=>exact⟨0,Nat.zero_le _,rfl,by simpa [Ba]using HP.o,PFr.refl _ _⟩
 case round=>
  obtain⟨k,hk,rfl,hpk,hfr⟩:=hrel;have HPK:=Za hpk;have HFR:=Za hfr;have hbl:=hpk.lt;have HXK:=Za (HX.o.step hfr);clear hpk hfr
  by_cases hlt:k<l.length
  ·obtain⟨eb,off,rfl,hD,hebl,c⟩:=Js (Ay.keep (HFR.o.keeps HP.o) HS.o) k hlt
   have hmap:=Za (fA Fm l k hlt);have hle:=Za (Kt (l.map Fm) (k+1));rw[←List.map_take,hmap.out,Gr]at hle;clear hD;generalize l.getD k []=e at c hmap hle;have cX:=HXK.o.cell 0 (by simp);simp only[Ze]at cX
   by_cases hk0:k=0
   ·have hk0':(k:Int)≤0:=by omega
    have hnil:(l.take k).map Fm=[]:=by rw[hk0];simp
    rw[if_pos hnil]at hle;have HNIL:=Za hnil;have hle':Hid (Ci ((bs++Ba ((l.take k).map Fm)).length+(Fm e).length)):=HF.o.mono (by have:=hle.out;rw[HNIL.o];simp [Ba];exact this);have hnext:Hid (Ba ((l.take (k+1)).map Fm)=Ba ((l.take k).map Fm)++Fm e):=by show _=_;rw[hmap.out,HNIL.o];simp [Ba]
    clear hk0 hnil;have CX:=Za cX;clear cX;go_wp2_with fail
    refine(Vx e X b _ t _ CX.out HPK.o hle'.out).mono ?_;rintro r w3 ⟨rfl,hp3,hf3⟩;have HP3:=Za hp3;have HF3:=Za (HFR.o.trans hf3);clear hp3 hf3 c;go_wp2_with fail
    go_roundw
    case rel=>exact⟨k+1,by omega,by go_num,by have q:=HP3.o;rw[hnext.out];simpa using q,HF3.o⟩
    case measure=>simp [intOf];omega
   ·have hk1:(0:Int)<k:=by omega
    have hne:Hid ((l.take k).map Fm≠[]):=by
     intro h;rw[List.map_eq_nil_iff,List.take_eq_nil_iff]at h;rcases h with h|h
     ·exact hk0 h
     ·rw[h]at hlt;simp at hlt
    have hle2:Hid (Ci ((bs++Ba ((l.take k).map Fm)).length+([44,32]:Bs).length+(Fm e).length)):=HF.o.mono (by have:=hle.out;rw[if_neg hne.out]at this;simp at this;simp;omega);have hnext:Hid (Ba ((l.take (k+1)).map Fm)=Ba ((l.take k).map Fm)++[44,32]++Fm e):=by show _=_;rw[hmap.out,Gr,if_neg hne.out]
    clear hk0 cX;go_wp2_with fail
    refine(Nh [44,32] _ _ b _ t _ rfl HPK.o (hle2.out.mono (by omega))).mono ?_;rintro r w2 ⟨rfl,hp2,hf2⟩;have HP2:=Za hp2;have HF2:=Za (HFR.o.trans hf2);have HX2:=Za (HXK.o.step hf2);clear hp2 hf2 c;have cX:=HX2.o.cell 0 (by simp);simp only[Ze]at cX;have CX:=Za cX;clear cX;go_wp2_with fail
    refine(Vx e X b _ t _ CX.out HP2.o (hle2.out.mono (by simp;omega))).mono ?_;rintro r w3 ⟨rfl,hp3,hf3⟩;have HP3:=Za hp3;have HF3:=Za (HF2.o.trans hf3);clear hp3 hf3;go_wp2_with fail
    go_roundw
    case rel=>exact⟨k+1,by omega,by go_num,by have q:=HP3.o;rw[hnext.out];simpa using q,HF3.o⟩
    case measure=>simp [intOf];omega
  ·go_wp2_with fail
   go_end0
   exact⟨rfl,by have e:l.take k=l:=Zq (by omega);have q:=HPK.o;rwa[e]at q,HFR.o⟩
abbrev fuV(f:Fu)(p l bd:Value):Value:=.agg #[.string (Aa f.name),p,l,bd]
theorem Loc.alloc {w:World}{b X:Nat}{cs:List Value}{bs:Bs}{t:Int}(h:Loc w b X cs)(hp:Bt w b bs t)(o:Obj):Loc (w.alloc o) b X cs:=h.step (Zc hp o)
theorem Ui(f:Fu)(b:Nat)(bs:Bs)(pv lv bv:Value)(w:World)(hb:3<b)(ht:Da w)(hp:Bt w b bs 0)(hps:Ay (· <b) w f.params pv)(hls:Ay (· <b) w f.locals lv)(hbs:Ap (· <b) w f.body bv)
  (hok:f.body.all (De 40)=true) (hf:Ci (bs.length+(Er f).length)):
  Calls Zb 32 #[.pointer (some ⟨b,0,none⟩),fuV f pv lv bv] w (Hw w b bs 0 (Er f)):=by
 obtain⟨nm,ps,ls,bd⟩:=f;obtain⟨pa,pc,rfl⟩:=hps.shape;obtain⟨la,lc,rfl⟩:=hls.shape;obtain⟨ba,bc,rfl⟩:=hbs.shape;have hl63:=hls.fits.lt;unfold Er at hf ⊢;unfold fuV;dsimp only at*;have q1:=hp.alloc (.cells #[.pointer (some ⟨b,0,none⟩)] 70);have r1:=Zc hp (.cells #[.pointer (some ⟨b,0,none⟩)] 70);have l1:=Loc.new hp [.pointer (some ⟨b,0,none⟩)] 70;have HP1:=Za (q1.alloc (.cells #[.string (Aa nm),.slice pa ps.length pc,.slice la ls.length lc,.slice ba bd.length bc] 47));have HF1:=Za (r1.trans (Zc q1 (.cells #[.string (Aa nm),.slice pa ps.length pc,.slice la ls.length lc,.slice ba bd.length bc] 47)));have HA1:=Za (l1.alloc q1 (.cells #[.string (Aa nm),.slice pa ps.length pc,.slice la ls.length lc,.slice ba bd.length bc] 47));have HB1:=Za (Loc.new q1 [.string (Aa nm),.slice pa ps.length pc,.slice la ls.length lc,.slice ba bd.length bc] 47);have hz:(w.alloc (.cells #[.pointer (some ⟨b,0,none⟩)] 70)).heap.size=w.heap.size+1:=by simp
 rw[hz]at HB1;have HT:=Za ht;have HP:=Za hp;have HPS:=Za hps;have HLS:=Za hls;have HBS:=Za hbs;have HO:=Za hok;have HF:=Za hf;clear ht hp hps hls hbs hok hf q1 r1 l1 hz;go_enter func32,ntmps32
 go_wp2_with fail
 have hW0:w.heap.size+1+1=((w.alloc (.cells #[.pointer (some ⟨b,0,none⟩)] 70)).alloc (.cells #[.string (Aa nm),.slice pa ps.length pc,.slice la ls.length lc,.slice ba bd.length bc] 47)).heap.size:=by simp
 generalize hX1:w.heap.size+1=X1 at*;clear hX1;generalize w.heap.size=X0 at*;generalize (w.alloc (.cells #[.pointer (some ⟨b,0,none⟩)] 70)).alloc (.cells #[.string (Aa nm),.slice pa ps.length pc,.slice la ls.length lc,.slice ba bd.length bc] 47)=W1 at*;refine(put3 [105,110,116,32] nm [40] _ _ b bs 0 W1 hW0 HP1.o HF.o.left).mono ?_;clear hW0;rintro r w2 ⟨rfl,hp2,hf2⟩;have HP2:=Za hp2;have HF2:=Za (HF1.o.trans hf2);have HA2:=Za (HA1.o.step hf2);have HB2:=Za (HB1.o.step hf2);clear hp2 hf2;have cA:=HA2.o.cell 0 (by simp);have c1:=HB2.o.cell 1 (by simp);simp only[Ze,Zf]at cA c1;go_wp2_with fail
 refine(dJ ps X0 b _ 0 _ _ HA2.o HP2.o (Ay.keep (HF2.o.keeps HP.o) HPS.o) HF.o.right.left).mono ?_;rintro r w3 ⟨rfl,hp3,hf3⟩;have HP3:=Za hp3;have HF3:=Za (HF2.o.trans hf3);have HA3:=Za (HA2.o.step hf3);have HB3:=Za (HB2.o.step hf3);clear hp3 hf3 cA c1;have cA:=HA3.o.cell 0 (by simp);have c1:=HB3.o.cell 1 (by simp);simp only[Ze,Zf]at cA c1;go_wp2_with fail
 refine(Nh [41,32,123,10] _ _ b _ 0 w3 rfl HP3.o HF.o.right.right.left).mono ?_;rintro r w4 ⟨rfl,hp4,hf4⟩;have HP4:=Za hp4;have HF4:=Za (HF3.o.trans hf4);have HA4:=Za (HA3.o.step hf4);have HB4:=Za (HB3.o.step hf4);clear hp4 hf4 cA c1;have cA:=HA4.o.cell 0 (by simp);have c2:=HB4.o.cell 2 (by simp);simp only[Ze,Zf]at cA c2;have cT:=HP4.o.tab;have fz:=HP4.o.frozen;have hset:=HP4.o.set 1;have HP5:=Za hset.1;have HF5:=Za (HF4.o.trans hset.2);have HA5:=Za (HA4.o.step hset.2);have HB5:=Za (HB4.o.step hset.2);clear hset;have c2':=HB5.o.cell 2 (by simp);simp only[Ze,Zf]at c2';go_wp2_with fail
 go_loopw [5,25] (fun _ s25 wr=> ∃k:Nat,k≤ls.length∧s25=.int .i64 k∧Bt wr b ((bs++([105,110,116,32]++(nm++[40]))++Ba (ps.map Fm)++[41,32,123,10])++Cm (ls.take k)) 1∧PFr b w wr∧Loc wr b X0 [.pointer (some ⟨b,0,none⟩)]∧Loc wr b X1 [.string (Aa nm),.slice pa ps.length pc,.slice la ls.length lc,.slice ba bd.length bc]) (fun _ s25 _=>ls.length-(intOf s25).toNat)
 case atStart=>exact⟨0,Nat.zero_le _,rfl,by simpa [Cm]using HP5.o,HF5.o,HA5.o,HB5.o⟩
 case round=>
  clear cT fz cA c2 c2';obtain⟨k,hk,rfl,hpk,hfr,hA,hB⟩:=hrel;have HPK:=Za hpk;have HFK:=Za hfr;have HAK:=Za hA;have HBK:=Za hB;clear hpk hfr hA hB
  by_cases hlt:k<ls.length
  ·obtain⟨eb,off,rfl,hD,hebl,c⟩:=Js (Ay.keep (HFK.o.keeps HP.o) HLS.o) k hlt
   have hnext:=Za (Oc ls k hlt);have hfit:Hid (Ci (((bs++([105,110,116,32]++(nm++[40]))++Ba (ps.map Fm)++[41,32,123,10])++Cm (ls.take k)).length+(ln 1 [[105,110,116,32],ls.getD k [],[59]]).length)):=by
    refine HF.o.right.right.right.left.mono ?_;have e:=Im ls (k+1);rw[hnext.out,Zo]at e;simp only[Zo]at e ⊢;omega
   clear hD;generalize ls.getD k []=x at*;have cA:=HAK.o.cell 0 (by simp);simp only[Ze,Zf]at cA;go_wp2_with fail
   refine(Eo [.s [105,110,116,32],.s x,.s [59]] _ _ b _ 1 _ (by simp) hb (HT.o.fr HFK.o HP.o hb) HPK.o (.s (.s (.s .nil))) (by omega) hfit.out (by simp)).mono ?_;rintro r w7 ⟨rfl,hp7,hf7⟩;have HP7:=Za hp7;have HF7:=Za (HFK.o.trans hf7);have HA7:=Za (HAK.o.step hf7);have HB7:=Za (HBK.o.step hf7);clear hp7 hf7 c cA;go_wp2_with fail
   go_roundw
   case rel=>exact⟨k+1,by omega,by go_num,by rw[hnext.out,←Zg];exact HP7.o,HF7.o,HA7.o,HB7.o⟩
   case measure=>simp [intOf];omega
  ·have e:ls.take k=ls:=Zq (by omega)
   rw[e]at HPK;clear e;have cA:=HAK.o.cell 0 (by simp);have c3:=HBK.o.cell 3 (by simp);simp only[Ze,Zf]at cA c3;have cT:=HPK.o.tab;have fz:=HPK.o.frozen;have hset:=HPK.o.set 0;have HP8:=Za hset.1;have HF8:=Za (HFK.o.trans hset.2);have HA8:=Za (HAK.o.step hset.2);have HB8:=Za (HBK.o.step hset.2);clear hset;go_wp2_with fail
   refine((dE 40).2 bd HO.o b _ 0 _ _ hb (HT.o.fr HF8.o HP.o hb) HP8.o (HBS.o.keep (HF8.o.keeps HP.o)) (by omega) HF.o.right.right.right.right.left).mono ?_;rintro r w9 ⟨rfl,hp9,hf9⟩;have HP9:=Za hp9;have HF9:=Za (HF8.o.trans hf9);have HA9:=Za (HA8.o.step hf9);have HB9:=Za (HB8.o.step hf9);clear hp9 hf9 cA c3 cT fz;have cA:=HA9.o.cell 0 (by simp);simp only[Ze,Zf]at cA;go_wp2_with fail
   refine(Eo [.s [125]] _ _ b _ 0 _ (by simp) hb (HT.o.fr HF9.o HP.o hb) HP9.o (.s .nil) (by omega) HF.o.right.right.right.right.right (by simp)).mono ?_;rintro r w10 ⟨rfl,hp10,hf10⟩;have HP10:=Za hp10;have HF10:=Za (HF9.o.trans hf10);have HA10:=Za (HA9.o.step hf10);have HB10:=Za (HB9.o.step hf10);clear hp10 hf10;go_wp2_with fail
   go_end0
   exact⟨rfl,by simpa [WIt.text]using HP10.o,HF10.o⟩
theorem Uj(l:List Ar)(k:Nat)(h:k<l.length):Bm (l.take (k+1))=Bm (l.take k)++Il (Dj l k):=by
 unfold Bm;rw[Zu h,Zs];simp [Dj,Zv h]
theorem Py(l:List Ar)(k:Nat):(Bm (l.take k)).length≤(Bm l).length:=by
 have e:Bm l=Bm (l.take k)++Bm (l.drop k):=by unfold Bm;rw[←Zs,List.take_append_drop]
 rw[e];simp
theorem Us(l:List Fu)(k:Nat)(h:k<l.length):Bv (l.take (k+1))=Bv (l.take k)++Er (Bc l k):=by
 unfold Bv;rw[Zu h,Zs];simp [Bc,Zv h]
theorem Qb(l:List Fu)(k:Nat):(Bv (l.take k)).length≤(Bv l).length:=by
 have e:Bv l=Bv (l.take k)++Bv (l.drop k):=by unfold Bv;rw[←Zs,List.take_append_drop]
 rw[e];simp
theorem eB(p:Pr)(D:Nat→Prop)(sa sf:Value)(w:World)(ha:Bp D w p.arrays sa)(hf:Bk D w p.funcs sf)(hr:Cd p=false):
  Calls Zb 9 #[.agg #[sa,sf]] w fun r w'=>r=.returned (.tuple #[.string (Aa []),.int .i64 1])∧Below w.heap.size w w':=by
 obtain⟨a1,a2,rfl⟩:=ha.shape;obtain⟨f1,f2,rfl⟩:=hf.shape;have hb1:Below w.heap.size w (w.alloc (.cells #[.slice a1 p.arrays.length a2,.slice f1 p.funcs.length f2] 27)):=bA;have HB1:=Za hb1;have HA:=Za ha;have HF:=Za hf;have HR:=Za hr;clear hb1 ha hf hr;go_enter func9,ntmps9
 go_wp2_with fail
 refine(Jo p D _ _ _ (Bp.old HB1.o HA.o) (Bk.old HB1.o HF.o)).mono ?_;rintro r w1 ⟨rfl,hb1⟩;rw[HR.o];have HB2:=Za (HB1.o.trans (hb1.mono (by simp)));clear hb1;go_wp2_with fail
 go_ret2
 exact⟨rfl,HB2.o⟩
theorem Ro(p:Pr)(sa sf:Value)(w:World)(hb:3<w.heap.size)(ht:Da w)(ha:Bp (· <w.heap.size) w p.arrays sa)(hf:Bk (· <w.heap.size) w p.funcs sf)(hr:Cd p=true)
  (hne:∀b W,Bt W b (Dv p) 0→Calls Zb 33 #[.pointer (some ⟨b,0,none⟩)] W fun e w'=>e=.returned (.string (Aa (Dv p)))∧Below b W w') (hfit:Ci (Dv p).length):
  Calls Zb 9 #[.agg #[sa,sf]] w fun r w'=>r=.returned (.tuple #[.string (Aa (Dv p)),.int .i64 0])∧Below w.heap.size w w':=by
 obtain⟨a1,a2,rfl⟩:=ha.shape;obtain⟨f1,f2,rfl⟩:=hf.shape;have la:=ha.fits.lt;have lf:=hf.fits.lt;have hb1:Below w.heap.size w (w.alloc (.cells #[.slice a1 p.arrays.length a2,.slice f1 p.funcs.length f2] 27)):=bA;have hr':(∀a,a∈p.arrays→Ch a=true)∧∀f,f∈p.funcs→Co f=true:=by unfold Cd at hr;rw[Zr,List.all_eq_true,List.all_eq_true]at hr;exact hr
 have HB1:=Za hb1;have HA:=Za ha;have HF:=Za hf;have HR:=Za hr;have HRA:=Za hr'.1;have HRF:=Za hr'.2;have HT:=Za ht;have HG:=Za hb;have HNE:=Za hne;have HFIT:=Za hfit;clear hb1 ha hf hr hr' ht hb hne hfit;go_enter func9,ntmps9
 go_wp2_with fail
 refine(Jo p (· <w.heap.size) _ _ _ (Bp.old HB1.o HA.o) (Bk.old HB1.o HF.o)).mono ?_;rintro r w1 ⟨rfl,hb1⟩;rw[HR.o];have hz:w.heap.size<w1.heap.size:=by have:=hb1.size;simp at this;omega
 have c0:w1.cell? ⟨w.heap.size,0,none⟩=some (.slice a1 p.arrays.length a2):=Ac hb1 (by simp);have c1:w1.cell? ⟨w.heap.size,1,none⟩=some (.slice f1 p.funcs.length f2):=Ac hb1 (by simp);have HB2:=Za (HB1.o.trans (hb1.mono (by simp)));clear hb1;have hb3:Below w1.heap.size w1 (w1.alloc (.cells #[.pointer none,.slice none 0 0,.int .i64 0] 76)):=bA;have HB3:Hid (Below w.heap.size w (w1.alloc (.cells #[.pointer none,.slice none 0 0,.int .i64 0] 76))):=HB2.o.alloc (by omega) _;have HP3:=Za (Bt.new w1);have C0:Hid ((w1.alloc (.cells #[.pointer none,.slice none 0 0,.int .i64 0] 76)).cell? ⟨w.heap.size,0,none⟩=some (.slice a1 p.arrays.length a2)):=Ac hb3 c0;have C1:Hid ((w1.alloc (.cells #[.pointer none,.slice none 0 0,.int .i64 0] 76)).cell? ⟨w.heap.size,1,none⟩=some (.slice f1 p.funcs.length f2)):=Ac hb3 c1;have HT3:Hid (Da (w1.alloc (.cells #[.pointer none,.slice none 0 0,.int .i64 0] 76))):=HT.o.keep (HB3.o.block _ HG.o);have HA3:Hid (Bp (· <w1.heap.size) (w1.alloc (.cells #[.pointer none,.slice none 0 0,.int .i64 0] 76)) p.arrays (.slice a1 p.arrays.length a2)):=(Bp.old HB3.o HA.o).mono (fun b h=>Nat.lt_trans h hz);have HF3:Hid (Bk (· <w1.heap.size) (w1.alloc (.cells #[.pointer none,.slice none 0 0,.int .i64 0] 76)) p.funcs (.slice f1 p.funcs.length f2)):=(Bk.old HB3.o HF.o).mono (fun b h=>Nat.lt_trans h hz);have HGb:Hid (3<w1.heap.size):=Nat.lt_trans HG.o hz;clear hb3 HA HF HT;go_wp2_with fail
 generalize w1.alloc (.cells #[.pointer none,.slice none 0 0,.int .i64 0] 76)=W3 at*;generalize w1.heap.size=b at*
 go_loopw [6,17] (fun _ s17 wr=> ∃k:Nat,k≤p.arrays.length∧s17=.int .i64 k∧Bt wr b (Bm (p.arrays.take k)) 0∧PFr b W3 wr) (fun _ s17 _=>p.arrays.length-(intOf s17).toNat)
 case atStart=>exact⟨0,Nat.zero_le _,rfl,by simpa [Bm]using HP3.o,PFr.refl _ _⟩
 case round=>
  obtain⟨k,hk,rfl,hpk,hfr⟩:=hrel;have HPK:=Za hpk;have HFK:=Za hfr;have hbl:=hpk.lt;clear hpk hfr c0 c1
  by_cases hlt:k<p.arrays.length
  ·obtain⟨eb,off,rfl,hD,hebl,z0,z1⟩:=Bp.cellAt (Bp.keep (HFK.o.keeps HP3.o) HA3.o) k hlt
   have hnext:=Za (Uj p.arrays k hlt);have hra:=HRA.o _ (Xm hlt);have hfit:Hid (Ci ((Bm (p.arrays.take k)).length+(Il (Dj p.arrays k)).length)):=by
    refine HFIT.o.mono ?_;have e:=Py p.arrays (k+1);rw[hnext.out,Zo]at e;unfold Dv;rw[Zo];omega
   clear hD;generalize Dj p.arrays k=x at*;have hsz:Hid (I64 x.size):=by
    unfold Ch at hra;rw[Zr]at hra;have:=of_decide_eq_true hra.2;show _∧_;omega
   clear hra;have HPb:=Za (HPK.o.alloc (.cells #[.string (Aa x.name),.int .i64 x.size] 66));have HFb:=Za (HFK.o.trans (Zc HPK.o (.cells #[.string (Aa x.name),.int .i64 x.size] 66)));have HLb:=Za (Loc.new HPK.o [.string (Aa x.name),.int .i64 x.size] 66);have hbl':b<(wr.alloc (.cells #[.string (Aa x.name),.int .i64 x.size] 66)).heap.size:=HPb.o.lt;go_wp2_with fail
   generalize wr.alloc (.cells #[.string (Aa x.name),.int .i64 x.size] 66)=W' at*;generalize wr.heap.size=X at*;clear z0 z1;have c0:=HLb.o.cell 0 (by simp);have c1:=HLb.o.cell 1 (by simp);simp only[Ze,Zf]at c0 c1;have hXl:X<W'.heap.size:=Zt _ _ c0;have hdr:Below W'.heap.size W' W'.drew:=(Below.refl _ _).drew;have HPd:=Za (HPb.o.old hdr);have HFd:=Za (HFb.o.trans (Zp hdr hbl'));have HLd:=Za (HLb.o.step (Zp hdr hbl'));have HTd:=Za (HT3.o.fr HFd.o HP3.o HGb.o);clear hdr
   go_region_held3 (fun w'=>w'.cell? ⟨X,0,none⟩=some (.string (Aa x.name))∧w'.cell? ⟨X,1,none⟩=some (.int .i64 x.size)) (first|(simp [*,Zd];done)|go_keep) (first
    |(go_at_call 31;refine(Ws x.size hsz.out _ HTd.o).mono ?_;rintro r w4 ⟨he,hb4⟩;subst he;have HP4:=Za (HPd.o.old hb4);have HF4:=Za (HFd.o.trans (Zp hb4 HPd.o.lt));have HL4:=Za (HLd.o.step (Zp hb4 HPd.o.lt));have g0:w4.cell? ⟨X,0,none⟩=some (.string (Aa x.name)):=HL4.o.cell 0 (by simp);have g1:w4.cell? ⟨X,1,none⟩=some (.int .i64 x.size):=HL4.o.cell 1 (by simp);have h4l:X<w4.heap.size:=Zt _ _ g0;clear hb4)
    |(go_at_call 30;refine(Eo [.s [105,110,116,32],.s x.name,.s [91],.s (Lib.itoa x.size),.s [93,59]] _ _ b _ 0 w4 (by simp) HGb.o (HT3.o.fr HF4.o HP3.o HGb.o) HP4.o (.s (.s (.s (.s (.s .nil))))) (by omega) hfit.out (by simp)).mono ?_;rintro r w5 ⟨he,hp5,hf5⟩;subst he;have HP5:=Za hp5;have HF5:=Za (HF4.o.trans hf5);have HL5:=Za (HL4.o.step hf5);have k0:w5.cell? ⟨X,0,none⟩=some (.string (Aa x.name)):=HL5.o.cell 0 (by simp);have k1:w5.cell? ⟨X,1,none⟩=some (.int .i64 x.size):=HL5.o.cell 1 (by simp);clear hp5 hf5))
   go_wp2_with fail
   go_roundw
   case rel=>exact⟨k+1,by omega,by go_num,by rw[hnext.out];exact HP5.o,HF5.o⟩
   case measure=>simp [intOf];omega
  ·have e:p.arrays.take k=p.arrays:=Zq (by omega)
   rw[e]at HPK;clear e;have hK:=HFK.o.keeps HP3.o;have c1:=hK _ _ _ hz C1.out;clear hK;go_wp2_with fail
   clear c1
   go_loopw [8,38] (fun _ s38 wx=> ∃k:Nat,k≤p.funcs.length∧s38=.int .i64 k∧Bt wx b (Bm p.arrays++Bv (p.funcs.take k)) 0∧PFr b W3 wx) (fun _ s38 _=>p.funcs.length-(intOf s38).toNat)
   case atStart=>exact⟨0,Nat.zero_le _,rfl,by simpa [Bv]using HPK.o,HFK.o⟩
   case round=>
    obtain⟨j,hj,rfl,hpj,hfj⟩:=hrel;have HPJ:=Za hpj;have HFJ:=Za hfj;have hbj:=hpj.lt;clear hpj hfj HPK HFK hbl
    by_cases hlj:j<p.funcs.length
    ·obtain⟨eb,off,pv,vv,sv,rfl,hD,hebl,z0,z1,z2,z3,hps,hvs,hss⟩:=Bk.cellAt (Bk.keep (HFJ.o.keeps HP3.o) HF3.o) j hlj
     obtain⟨p1,p2,rfl⟩:=hps.shape;obtain⟨v1,v2,rfl⟩:=hvs.shape;obtain⟨s1,s2,rfl⟩:=hss.shape;have hnext:=Za (Us p.funcs j hlj);have hra:=HRF.o _ (Ln hlj);have hfit:Hid (Ci ((Bm p.arrays++Bv (p.funcs.take j)).length+(Er (Bc p.funcs j)).length)):=by
      refine HFIT.o.mono ?_;have e:=Qb p.funcs (j+1);rw[hnext.out,Zo]at e;unfold Dv;rw[Zo,Zo];omega
     have HPS:=Za hps;have HVS:=Za hvs;have HSS:=Za hss;clear hD hps hvs hss;generalize Bc p.funcs j=x at*;have hok:Hid (x.body.all (De 40)=true):=by
      unfold Co at hra;rw[Zr]at hra;exact hra.2
     clear hra;have HPb:=Za (HPJ.o.alloc (.cells #[.string (Aa x.name),.slice p1 x.params.length p2,.slice v1 x.locals.length v2,.slice s1 x.body.length s2] 47));have HFb:=Za (HFJ.o.trans (Zc HPJ.o (.cells #[.string (Aa x.name),.slice p1 x.params.length p2,.slice v1 x.locals.length v2,.slice s1 x.body.length s2] 47)));have HKb:=Za ((Zc HPJ.o (.cells #[.string (Aa x.name),.slice p1 x.params.length p2,.slice v1 x.locals.length v2,.slice s1 x.body.length s2] 47)).keeps HPJ.o);go_wp2_with fail
     refine(Ui x b _ (.slice p1 x.params.length p2) (.slice v1 x.locals.length v2) (.slice s1 x.body.length s2) _ HGb.o (HT3.o.fr HFb.o HP3.o HGb.o) HPb.o (Ay.keep HKb.o HPS.o) (Ay.keep HKb.o HVS.o) (HSS.o.keep HKb.o) hok.out hfit.out).mono ?_;rintro r w5 ⟨rfl,hp5,hf5⟩;have HP5:=Za hp5;have HF5:=Za (HFb.o.trans hf5);clear hp5 hf5 z0 z1 z2 z3;go_wp2_with fail
     go_roundw
     case rel=>exact⟨j+1,by omega,by go_num,by rw[hnext.out,←Zg];exact HP5.o,HF5.o⟩
     case measure=>simp [intOf];omega
    ·have e:p.funcs.take j=p.funcs:=Zq (by omega)
     rw[e]at HPJ;clear e;go_wp2_with fail
     refine(HNE.o b _ HPJ.o).mono ?_;rintro r w6 ⟨rfl,hb6⟩;have HB6:=Za (HB3.o.trans (((HFJ.o.below HP3.o).trans hb6).mono (Nat.le_of_lt hz)));clear hb6;go_wp2_with fail
     go_ret2
     exact⟨rfl,HB6.o⟩
theorem Yd(p:Pr)(sa sf:Value)(w:World)(hb:3<w.heap.size)(ht:Da w)(ha:Bp (· <w.heap.size) w p.arrays sa)(hf:Bk (· <w.heap.size) w p.funcs sf)(hr:Cd p=true)(hne:Dv p≠[])(hfit:Ci (Dv p).length):
  Calls Zb 9 #[.agg #[sa,sf]] w fun r w'=>r=.returned (.tuple #[.string (Aa (Dv p)),.int .i64 0])∧Below w.heap.size w w':=
 Ro p sa sf w hb ht ha hf hr (fun b W h=>Ms b _ _ _ h hne) hfit
end Go.Proofs.YtfhbinbjkpfedaaGreatDoor
