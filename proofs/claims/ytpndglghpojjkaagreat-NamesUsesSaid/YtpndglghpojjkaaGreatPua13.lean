/-
  6 texts of the proof, in one file: no condition.
-/
import Derived.Test.YtpndglghpojjkaaGreatPua12
set_option maxRecDepth 1000000
set_option maxHeartbeats 8000000
namespace Go.Proofs.YtpndglghpojjkaaGreat
open Go.RowKit Go.Deep
theorem jC (K:List UInt8→Nat):∀(s:List S) (e:Ex),exN (dP K) s e=s++(exL e).filter fun x=>K x==0
 |s,.nil=>by simp[exN,exL]
 |s,.mk k n x a b=>by
  unfold exN exL;rw[jC K _ b,jC K _ a];by_cases hk:k=1
  ·rw[if_pos hk,if_pos hk];unfold dP;by_cases hx:K x=0
   ·rw[if_pos hx];simp[hx]
   ·rw[if_neg hx];simp[hx]
  ·rw[if_neg hk,if_neg hk];simp
theorem rZ (K:List UInt8→Nat):∀(s:List S) (e:Cn),cnN (dP K) (fun s _=>s) s e=s++(cnL e).filter fun x=>K x==0
 |s,.nil=>by simp[cnN,cnL]
 |s,.mk k a b p q x=>by unfold cnN cnL;rw[rZ K _ q,rZ K _ p,jC K _ b,jC K _ a];simp
theorem yu (K:List UInt8→Nat):∀(l:List Ag) (s:List S),agN (dP K) s l=s++(agP l).filter fun x=>K x==0
 | [],s=>by simp[agN,agP]
 |a::l,s=>by
  have e1:agN (dP K) s (a::l)=agN (dP K) (if a.ptr then s else exN (dP K) s a.e) l:=rfl
  have e2:agP (a::l)=(if a.ptr then []else exL a.e)++agP l:=by unfold agP;rw[List.flatMap_cons]
  rw[e1,e2,yu K l,jC,List.filter_append,←List.append_assoc];congr 1;split<;>simp
def cellsS (K:List UInt8→Nat) (s:List S) (h:Hd):List S:=
 if h.k=0∨h.k=4∨h.k=6 then dP K (hsN (dP K) s h) h.x
 else if h.k=8 then(if h.x= []then hsN (dP K) s h else dP K (hsN (dP K) s h) h.x)
 else if h.k=1 then dP K (hsN (dP K) s h) h.y
 else hsN (dP K) s h
def uZ (K:List UInt8→Nat) (s:List S) (h:Hd):List S:=if h.k=6∨h.k=7 then dP K s h.y else s
def uX (K:List UInt8→Nat) (s:List S) (h:Hd):List S:=if h.k=8 then dP K s h.y else s
def cellsD (K:List UInt8→Nat) (s:List S) (h:Hd):List S×Bool:=(cellsS K s h,true)
def Eu (K:List UInt8→Nat) (s:List S) (h:Hd):List S×Bool:=(uZ K s h,true)
def Ej (K:List UInt8→Nat) (s:List S) (h:Hd):List S×Bool:=(uX K s h,true)
theorem lY (K:List UInt8→Nat) (s:List S) (x:S):dP K s x=s++ [x].filter fun x=>K x==0:=by
 unfold dP;by_cases hx:K x=0
 ·rw[if_pos hx];simp[hx]
 ·rw[if_neg hx];simp[hx]
theorem zu (K:List UInt8→Nat) (s:List S) (h:Hd):cellsS K s h=s++hdP K h:=by
 have e0:hsN (dP K) s h=s++(exL h.e++(exL h.f++(cnL h.c++agP h.args))).filter fun x=>K x==0:=by unfold hsN;rw[yu,rZ,jC,jC];simp
 unfold cellsS hdP vU;rw[e0];by_cases h0:h.k=0∨h.k=4∨h.k=6
 ·rw[if_pos h0,if_pos h0,lY];simp
 ·rw[if_neg h0,if_neg h0];by_cases h8:h.k=8
  ·rw[if_pos h8,if_pos h8];by_cases hx:h.x= []
   ·rw[if_pos hx,if_pos hx];simp
   ·rw[if_neg hx,if_neg hx,lY];simp
  ·rw[if_neg h8,if_neg h8];by_cases h1:h.k=1
   ·rw[if_pos h1,if_pos h1,lY];simp
   ·rw[if_neg h1,if_neg h1];simp
theorem BM (K:List UInt8→Nat) (s:List S) (h:Hd):uZ K s h=s++globs K jd h:=by
 unfold uZ globs jd;split
 ·rw[lY]
 ·simp
theorem BJ (K:List UInt8→Nat) (s:List S) (h:Hd):uX K s h=s++globs K iw h:=by
 unfold uX globs iw;split
 ·rw[lY]
 ·simp
theorem jW {d:List S→Hd→List S×Bool} {g:Hd→List S} (h:∀s y,d s y=(s++g y,true)):∀(l:Sl) (s:List S),vis d s l=(s++each g l,true)
 | .nil,s=>by simp[vis,each]
 | .cons y t e r,s=>by unfold vis each;rw[h];simp only[if_true];rw[jW h t,if_pos rfl,jW h e,if_pos rfl,jW h r];simp
structure CcI (gc m fm:Nat) (K:List UInt8→Nat) (s:List S) (w:World):Prop where
 ci:ClI m fm K s w
 hc:Holds w gc 110 #[.map (some m),.map (some fm)]
theorem CcI.below {gc m fm:Nat} {K:List UInt8→Nat} {s:List S} {w w':World} (h:CcI gc m fm K s w) (hb:Below w.heap.size w w'):CcI gc m fm K s w':=⟨h.ci.below hb,h.hc.below hb h.hc.lt⟩
theorem CcI.apart {gc m fm:Nat} {K:List UInt8→Nat} {s:List S} {w:World} (h:CcI gc m fm K s w):gc≠fm:=h.ci.fs.Fz (h.hc.cell 0)
theorem CcI.next {gc m fm:Nat} {K:List UInt8→Nat} {s s':List S} {w w':World} (h:CcI gc m fm K s w) (h2:ClI m fm K s' w') (hW:Writes [some fm] w w'):CcI gc m fm K s' w':=⟨h2,hW.holds h.hc (by simp;exact h.apart)⟩
theorem CcI.facts {gc m fm:Nat} {K:List UInt8→Nat} {s:List S} {w:World} (h:CcI gc m fm K s w):w.cell? ⟨gc,0,none⟩=some (.map (some m))∧w.cell? ⟨gc,1,none⟩=some (.map (some fm))∧gc<w.heap.size:=⟨h.hc.cell 0,h.hc.cell 1,h.hc.lt⟩
theorem dA {w:World} {g:Nat} {h:Hd} {pe pf pc Aa At Al:Option Addr} {na ca nt ct nl cl:Nat} (H:Holds w g 63 (stC h pe pf pc Aa At Al na ca nt ct nl cl)):w.cell? ⟨g,0,none⟩=some (.int .i64 h.k)∧w.cell? ⟨g,1,none⟩=some (.string (ay h.x))∧w.cell? ⟨g,2,none⟩=some (.string (ay h.y))∧w.cell? ⟨g,3,none⟩=some (.pointer pe)∧w.cell? ⟨g,4,none⟩=some (.pointer pf)∧w.cell? ⟨g,5,none⟩=some (.pointer pc)∧w.cell? ⟨g,6,none⟩=some (.slice Aa na ca)∧w.cell? ⟨g,7,none⟩=some (.slice At nt ct)∧w.cell? ⟨g,8,none⟩=some (.slice Al nl cl)∧w.cell? ⟨g,9,none⟩=some (.int .i64 h.at_)∧g<w.heap.size:=
 ⟨H.cell 0,H.cell 1,H.cell 2,H.cell 3,H.cell 4,H.cell 5,H.cell 6,H.cell 7,H.cell 8,H.cell 9,H.lt⟩
theorem zx (gc m fm:Nat) (K:List UInt8→Nat) (s:List S) (h:Hd) (w:World) (pe pf pc Aa At Al:Option Addr) (na ca nt ct nl cl:Nat) (H:dn w (bF [some fm]) h (.pointer pe) (.pointer pf) (.pointer pc) (.slice Aa na ca)) (hB:hsC h+1≤lW s) (hI:CcI gc m fm K s w):
  Calls Tryz.prog 53 #[.agg (stC h pe pf pc Aa At Al na ca nt ct nl cl),.pointer (some ⟨gc,0,none⟩)] w fun e w'=>e= .returned (.bool true)∧CcI gc m fm K (cellsS K s h) w'∧Writes [some fm] w w':=by
 obtain⟨sR,hsR⟩:∃y,y=cellsS K s h:=⟨_,rfl⟩;rw[←hsR];have hS0:=Za hsR;clear hsR;obtain⟨w1,hw1⟩:∃y,y=w.alloc (.cells (stC h pe pf pc Aa At Al na ca nt ct nl cl) 63):=⟨_,rfl⟩;obtain⟨g,hg⟩:∃y,y=w.heap.size:=⟨_,rfl⟩
 have hb1:Below w.heap.size w w1:=by rw[hw1];exact aA w _
 have hH1:Holds w1 g 63 (stC h pe pf pc Aa At Al na ca nt ct nl cl):=by rw[hw1,hg];exact Holds.new w _ _
 have hgf:Hid (g≠fm):=Za (by have:=hI.ci.fs.lt;omega);have hI1:=Za (hI.below hb1);have hHd:=Za (H.below hb1);have hW1:=Za (Writes.of_below hb1 [some fm]);have hxl:=H.x;have hyl:=H.y;have hkl:=H.k;have hH1':=Za hH1;have hfo:=Za hw1.symm;have hg':=Za hg.symm;have hB':=Za hB;unfold stC at hfo;clear hw1 hg hb1 hI H hH1 hB;unfold stC;go_enter Tryz.func53,Tryz.ntmps53;go_upto_region 1 with(fail);rw[hfo.out,hg'.out];clear hfo hg';obtain⟨q0,q1,q2,q3,q4,q5,q6,q7,q8,q9,ql⟩:=dA hH1'.out;obtain⟨p0,p1,pl⟩:=hI1.out.facts;go_wp2_with fail;have hbs:=zS (f:=dP K) (bud:=lW) (jF m fm K).step s h;have hbs1:Hid ((hsN (dP K) s h).length<500000):=Za (by have h1:=hB'.out;unfold lW at hbs h1;omega);clear hbs;refine(BA (jF m fm K) (some m) w1 s h pe pf pc Aa At Al na ca nt ct nl cl hHd.out (by have:=hB'.out;omega) hI1.out.ci).mono ?_;rintro e w2 ⟨rfl,hI2,hW2⟩;have hI3:=Za (hI1.out.next hI2 hW2);have hH3:=Za (hW2.holds hH1'.out (by simp;exact hgf.out));have hW3:=Za (hW1.out.trans hW2);clear hI2 hW2 hH1' hI1 hHd hW1 hB' q0 q1 q2 q3 q4 q5 q6 q7 q8 q9 ql p0 p1 pl
 obtain⟨s1,hs1⟩:∃y,y=hsN (dP K) s h:=⟨_,rfl⟩;rw[←hs1]at hI3 hbs1;have hSS:Hid (sR=if h.k=0∨h.k=4∨h.k=6 then dP K s1 h.x else if h.k=8 then(if h.x= []then s1 else dP K s1 h.x)else if h.k=1 then dP K s1 h.y else s1):=Za (by rw[hS0.out,hs1];rfl);clear hs1 hS0;obtain⟨q0,q1,q2,q3,q4,q5,q6,q7,q8,q9,ql⟩:=dA hH3.out;obtain⟨p0,p1,pl⟩:=hI3.out.facts;clear q3 q4 q5 q6 q7 q8 q9;obtain⟨k,x,y,he_,hf_,hc_,hg_,ht_⟩:=h;simp only at q0 q1 q2 hxl hyl hkl hSS;rcases(show k=0∨k=4∨k=6∨k=8∨k=1∨(k≠0∧k≠4∧k≠6∧k≠8∧k≠1)by omega)with rfl|rfl|rfl|rfl|rfl|hk
 ·have hRR:Hid (sR=dP K s1 x):=Za (by rw[hSS.out];simp);clear hSS;go_wp2_with fail;refine(iC w2 m fm K s1 hI3.out.ci x (by omega) hbs1.out).mono ?_;rintro e w4 ⟨rfl,hI4,hW4⟩;have hI5:=Za (hI3.out.next hI4 hW4);have hW5:=Za (hW3.out.trans hW4);clear hI4 hW4 hI3 hH3 hW3;go_wp2_with fail;go_ret;exact⟨rfl,by rw[hRR.out];exact hI5.out,hW5.out⟩
 ·have hRR:Hid (sR=dP K s1 x):=Za (by rw[hSS.out];simp);clear hSS;go_wp2_with fail;refine(iC w2 m fm K s1 hI3.out.ci x (by omega) hbs1.out).mono ?_;rintro e w4 ⟨rfl,hI4,hW4⟩;have hI5:=Za (hI3.out.next hI4 hW4);have hW5:=Za (hW3.out.trans hW4);clear hI4 hW4 hI3 hH3 hW3;go_wp2_with fail;go_ret;exact⟨rfl,by rw[hRR.out];exact hI5.out,hW5.out⟩
 ·have hRR:Hid (sR=dP K s1 x):=Za (by rw[hSS.out];simp);clear hSS;go_wp2_with fail;refine(iC w2 m fm K s1 hI3.out.ci x (by omega) hbs1.out).mono ?_;rintro e w4 ⟨rfl,hI4,hW4⟩;have hI5:=Za (hI3.out.next hI4 hW4);have hW5:=Za (hW3.out.trans hW4);clear hI4 hW4 hI3 hH3 hW3;go_wp2_with fail;go_ret;exact⟨rfl,by rw[hRR.out];exact hI5.out,hW5.out⟩
 ·by_cases hx:x= []
  ·have hxe:(ay x).toList.isEmpty=true:=by rw[aH,hx];rfl
   have hRR:Hid (sR=s1):=Za (by rw[hSS.out];simp[hx]);clear hSS hx;go_wp2_with fail;go_ret;exact⟨rfl,by rw[hRR.out];exact hI3.out,hW3.out⟩
  ·have hxs:¬(ay x).toList= []:=by rw[aH];exact hx
   have hxe:(ay x).toList.isEmpty=false:=by rw[aH];simpa using hx
   have hRR:Hid (sR=dP K s1 x):=Za (by rw[hSS.out];simp[hx]);clear hSS hx;go_wp2_with fail;refine(iC w2 m fm K s1 hI3.out.ci x (by omega) hbs1.out).mono ?_;rintro e w4 ⟨rfl,hI4,hW4⟩;have hI5:=Za (hI3.out.next hI4 hW4);have hW5:=Za (hW3.out.trans hW4);clear hI4 hW4 hI3 hH3 hW3;go_wp2_with fail;go_ret;exact⟨rfl,by rw[hRR.out];exact hI5.out,hW5.out⟩
 ·have hRR:Hid (sR=dP K s1 y):=Za (by rw[hSS.out];simp);clear hSS;go_wp2_with fail;refine(iC w2 m fm K s1 hI3.out.ci y (by omega) hbs1.out).mono ?_;rintro e w4 ⟨rfl,hI4,hW4⟩;have hI5:=Za (hI3.out.next hI4 hW4);have hW5:=Za (hW3.out.trans hW4);clear hI4 hW4 hI3 hH3 hW3;go_wp2_with fail;go_ret;exact⟨rfl,by rw[hRR.out];exact hI5.out,hW5.out⟩
 ·obtain⟨h0,h4,h6,h8,h1⟩:=hk
  have e0:((k:Int)==0)=false:=by simp;omega
  have e4:((k:Int)==4)=false:=by simp;omega
  have e6:((k:Int)==6)=false:=by simp;omega
  have e8:((k:Int)==8)=false:=by simp;omega
  have e1:((k:Int)==1)=false:=by simp;omega
  have hRR:Hid (sR=s1):=Za (by rw[hSS.out,if_neg (by omega),if_neg h8,if_neg h1]);clear hSS h0 h4 h6 h8 h1;go_wp2_with fail;go_ret;exact⟨rfl,by rw[hRR.out];exact hI3.out,hW3.out⟩
theorem BG (gc m fm:Nat) (K:List UInt8→Nat):wC 53 #[] #[.pointer (some ⟨gc,0,none⟩)] [some fm] (CcI gc m fm K) (cellsD K) lW (fun h=>hsC h+1):=
 ⟨enters_of Tryz.func53 (by kernel_rfl) rfl,fun s h w pe pf pc Aa At Al na ca nt ct nl cl H hB hI=>zx gc m fm K s h w pe pf pc Aa At Al na ca nt ct nl cl H hB hI,fun _ _ _ h hb=>h.below hb,fun _ _ g h hg=>by simp at hg;subst hg;exact h.ci.fs.lt,fun s h=>by have h1:=zS (f:=dP K) (bud:=lW) (jF m fm K).step s h;have h2:=(jF m fm K).step (hsN (dP K) s h) h.x;have h3:=(jF m fm K).step (hsN (dP K) s h) h.y;unfold cellsD cellsS;simp only;repeat (first|omega|split)⟩
theorem BO (gc m fm:Nat) (K:List UInt8→Nat) (s:List S) (h:Hd) (w:World) (pe pf pc Aa At Al:Option Addr) (na ca nt ct nl cl:Nat) (H:dn w (bF [some fm]) h (.pointer pe) (.pointer pf) (.pointer pc) (.slice Aa na ca)) (hB:1≤lW s) (hI:CcI gc m fm K s w):
  Calls Tryz.prog 57 #[.agg (stC h pe pf pc Aa At Al na ca nt ct nl cl),.pointer (some ⟨gc,0,none⟩)] w fun e w'=>e= .returned (.bool true)∧CcI gc m fm K (uZ K s h) w'∧Writes [some fm] w w':=by
 obtain⟨sR,hsR⟩:∃y,y=uZ K s h:=⟨_,rfl⟩;rw[←hsR];have hS0:=Za hsR;clear hsR;obtain⟨w1,hw1⟩:∃y,y=w.alloc (.cells (stC h pe pf pc Aa At Al na ca nt ct nl cl) 63):=⟨_,rfl⟩;obtain⟨g,hg⟩:∃y,y=w.heap.size:=⟨_,rfl⟩
 have hb1:Below w.heap.size w w1:=by rw[hw1];exact aA w _
 have hH1:Holds w1 g 63 (stC h pe pf pc Aa At Al na ca nt ct nl cl):=by rw[hw1,hg];exact Holds.new w _ _
 have hgf:Hid (g≠fm):=Za (by have:=hI.ci.fs.lt;omega);have hI1:=Za (hI.below hb1);have hHd:=Za (H.below hb1);have hW1:=Za (Writes.of_below hb1 [some fm]);have hxl:=H.x;have hyl:=H.y;have hkl:=H.k;have hH1':=Za hH1;have hfo:=Za hw1.symm;have hg':=Za hg.symm;have hB':=Za hB;unfold stC at hfo;clear hw1 hg hb1 hI H hH1 hB;unfold stC;go_enter Tryz.func57,Tryz.ntmps57;go_upto_region 1 with(fail);rw[hfo.out,hg'.out];clear hfo hg';obtain⟨q0,q1,q2,q3,q4,q5,q6,q7,q8,q9,ql⟩:=dA hH1'.out;obtain⟨p0,p1,pl⟩:=hI1.out.facts;have hI3:=hI1;have hH3:=hH1';have hW3:=hW1;have hbs1:Hid (s.length<500000):=Za (by have h1:=hB'.out;unfold lW at h1;omega);have hSS:Hid (sR=if h.k=6∨h.k=7 then dP K s h.y else s):=Za (by rw[hS0.out];rfl);clear hS0 q3 q4 q5 q6 q7 q8 q9 hHd hI1 hH1' hW1 hB';obtain⟨k,x,y,he_,hf_,hc_,hg_,ht_⟩:=h;simp only at q0 q1 q2 hxl hyl hkl hSS;rcases(show k=6∨k=7∨(k≠6∧k≠7)by omega)with rfl|rfl|hk
 ·have hRR:Hid (sR=dP K s y):=Za (by rw[hSS.out];simp);clear hSS;go_wp2_with fail;refine(iC w1 m fm K s hI3.out.ci y (by omega) hbs1.out).mono ?_;rintro e w4 ⟨rfl,hI4,hW4⟩;have hI5:=Za (hI3.out.next hI4 hW4);have hW5:=Za (hW3.out.trans hW4);clear hI4 hW4 hI3 hH3 hW3;go_wp2_with fail;go_ret;exact⟨rfl,by rw[hRR.out];exact hI5.out,hW5.out⟩
 ·have hRR:Hid (sR=dP K s y):=Za (by rw[hSS.out];simp);clear hSS;go_wp2_with fail;refine(iC w1 m fm K s hI3.out.ci y (by omega) hbs1.out).mono ?_;rintro e w4 ⟨rfl,hI4,hW4⟩;have hI5:=Za (hI3.out.next hI4 hW4);have hW5:=Za (hW3.out.trans hW4);clear hI4 hW4 hI3 hH3 hW3;go_wp2_with fail;go_ret;exact⟨rfl,by rw[hRR.out];exact hI5.out,hW5.out⟩
 ·obtain⟨h6,h7⟩:=hk
  have e6:((k:Int)==6)=false:=by simp;omega
  have e7:((k:Int)==7)=false:=by simp;omega
  have hRR:Hid (sR=s):=Za (by rw[hSS.out,if_neg (by omega)]);clear hSS h6 h7;go_wp2_with fail;go_ret;exact⟨rfl,by rw[hRR.out];exact hI3.out,hW3.out⟩
theorem Et (gc m fm:Nat) (K:List UInt8→Nat):wC 57 #[] #[.pointer (some ⟨gc,0,none⟩)] [some fm] (CcI gc m fm K) (Eu K) lW (fun _=>1):=
 ⟨enters_of Tryz.func57 (by kernel_rfl) rfl,fun s h w pe pf pc Aa At Al na ca nt ct nl cl H hB hI=>BO gc m fm K s h w pe pf pc Aa At Al na ca nt ct nl cl H hB hI,fun _ _ _ h hb=>h.below hb,fun _ _ g h hg=>by simp at hg;subst hg;exact h.ci.fs.lt,fun s h=>by have h3:=(jF m fm K).step s h.y;unfold Eu uZ;simp only;split<;>omega⟩
theorem BK (gc m fm:Nat) (K:List UInt8→Nat) (s:List S) (h:Hd) (w:World) (pe pf pc Aa At Al:Option Addr) (na ca nt ct nl cl:Nat) (H:dn w (bF [some fm]) h (.pointer pe) (.pointer pf) (.pointer pc) (.slice Aa na ca)) (hB:1≤lW s) (hI:CcI gc m fm K s w):
  Calls Tryz.prog 58 #[.agg (stC h pe pf pc Aa At Al na ca nt ct nl cl),.pointer (some ⟨gc,0,none⟩)] w fun e w'=>e= .returned (.bool true)∧CcI gc m fm K (uX K s h) w'∧Writes [some fm] w w':=by
 obtain⟨sR,hsR⟩:∃y,y=uX K s h:=⟨_,rfl⟩;rw[←hsR];have hS0:=Za hsR;clear hsR;obtain⟨w1,hw1⟩:∃y,y=w.alloc (.cells (stC h pe pf pc Aa At Al na ca nt ct nl cl) 63):=⟨_,rfl⟩;obtain⟨g,hg⟩:∃y,y=w.heap.size:=⟨_,rfl⟩
 have hb1:Below w.heap.size w w1:=by rw[hw1];exact aA w _
 have hH1:Holds w1 g 63 (stC h pe pf pc Aa At Al na ca nt ct nl cl):=by rw[hw1,hg];exact Holds.new w _ _
 have hgf:Hid (g≠fm):=Za (by have:=hI.ci.fs.lt;omega);have hI1:=Za (hI.below hb1);have hHd:=Za (H.below hb1);have hW1:=Za (Writes.of_below hb1 [some fm]);have hxl:=H.x;have hyl:=H.y;have hkl:=H.k;have hH1':=Za hH1;have hfo:=Za hw1.symm;have hg':=Za hg.symm;have hB':=Za hB;unfold stC at hfo;clear hw1 hg hb1 hI H hH1 hB;unfold stC;go_enter Tryz.func58,Tryz.ntmps58;go_upto_region 1 with(fail);rw[hfo.out,hg'.out];clear hfo hg';obtain⟨q0,q1,q2,q3,q4,q5,q6,q7,q8,q9,ql⟩:=dA hH1'.out;obtain⟨p0,p1,pl⟩:=hI1.out.facts;have hI3:=hI1;have hH3:=hH1';have hW3:=hW1;have hbs1:Hid (s.length<500000):=Za (by have h1:=hB'.out;unfold lW at h1;omega);have hSS:Hid (sR=if h.k=8 then dP K s h.y else s):=Za (by rw[hS0.out];rfl);clear hS0 q3 q4 q5 q6 q7 q8 q9 hHd hI1 hH1' hW1 hB';obtain⟨k,x,y,he_,hf_,hc_,hg_,ht_⟩:=h;simp only at q0 q1 q2 hxl hyl hkl hSS;by_cases h8:k=8
 ·subst h8;have hRR:Hid (sR=dP K s y):=Za (by rw[hSS.out];simp);clear hSS;go_wp2_with fail;refine(iC w1 m fm K s hI3.out.ci y (by omega) hbs1.out).mono ?_;rintro e w4 ⟨rfl,hI4,hW4⟩;have hI5:=Za (hI3.out.next hI4 hW4);have hW5:=Za (hW3.out.trans hW4);clear hI4 hW4 hI3 hH3 hW3;go_wp2_with fail;go_ret;exact⟨rfl,by rw[hRR.out];exact hI5.out,hW5.out⟩
 ·have e8:((k:Int)==8)=false:=by simp;omega
  have hRR:Hid (sR=s):=Za (by rw[hSS.out,if_neg h8]);clear hSS h8;go_wp2_with fail;go_ret;exact⟨rfl,by rw[hRR.out];exact hI3.out,hW3.out⟩
theorem Eh (gc m fm:Nat) (K:List UInt8→Nat):wC 58 #[] #[.pointer (some ⟨gc,0,none⟩)] [some fm] (CcI gc m fm K) (Ej K) lW (fun _=>1):=
 ⟨enters_of Tryz.func58 (by kernel_rfl) rfl,fun s h w pe pf pc Aa At Al na ca nt ct nl cl H hB hI=>BK gc m fm K s h w pe pf pc Aa At Al na ca nt ct nl cl H hB hI,fun _ _ _ h hb=>h.below hb,fun _ _ g h hg=>by simp at hg;subst hg;exact h.ci.fs.lt,fun s h=>by have h3:=(jF m fm K).step s h.y;unfold Ej uX;simp only;split<;>omega⟩
theorem nK (w:World) (nm:List UInt8) (ps ls:List Vr) (A1 A2 A3:Option Addr) (c1 c2 n3 c3:Nat) (h1:bY w Evr ps (.slice A1 ps.length c1)) (h2:bY w Evr ls (.slice A2 ls.length c2)):
  Calls Tryz.prog 52 #[.agg (fnC nm A1 A2 A3 ps.length c1 ls.length c2 n3 c3)] w fun e w'=>∃m fm,e= .returned (.agg #[.map (some m),.map (some fm)])∧ClI m fm (cZ (ps++ls)) [] w'∧w.heap.size≤fm∧Below w.heap.size w w':=by
 have vX:=Za (fun(w:World) (h1:bY w Evr ps (.slice A1 ps.length c1)) (h2:bY w Evr ls (.slice A2 ls.length c2))=>mZ w nm ps ls A1 A2 A3 c1 c2 n3 c3 h1 h2);unfold fnC at vX⊢;obtain⟨n1,hn1⟩:∃y,y=ps.length:=⟨_,rfl⟩;obtain⟨n2,hn2⟩:∃y,y=ls.length:=⟨_,rfl⟩;rw[←hn1,←hn2]at vX⊢;rw[←hn1]at h1;rw[←hn2]at h2;obtain⟨w2,hw2⟩:∃x,x=(w.alloc (.cells #[.string (ay nm),.slice A1 n1 c1,.slice A2 n2 c2,.slice A3 n3 c3] 26)).alloc (.cells #[.map none,.map none] 110):=⟨_,rfl⟩;obtain⟨gr,hgr⟩:∃x,x=w.heap.size+1:=⟨_,rfl⟩
 have hb2:Below w.heap.size w w2:=by rw[hw2];exact((Below.refl _ _).alloc (Nat.le_refl _) _).alloc (by simp) _
 have hHr:Holds w2 gr 110 #[.map none,.map none]:=by have h:=Holds.new (w.alloc (.cells #[.string (ay nm),.slice A1 n1 c1,.slice A2 n2 c2,.slice A3 n3 c3] 26)) 110 #[.map none,.map none];rw[show(w.alloc (.cells #[.string (ay nm),.slice A1 n1 c1,.slice A2 n2 c2,.slice A3 n3 c3] 26)).heap.size=w.heap.size+1 by simp]at h;rw[hw2,hgr];exact h
 have hc:=Za (vX.out w2 (h1.keep fun x hx _=>hb2.block x hx) (h2.keep fun x hx _=>hb2.block x hx))
 have hr0:w.heap.size≤gr:=by omega
 have hfo:=Za hw2.symm;have zk:=Za hgr.symm;have GL:=Za hHr;have hb2':=Za hb2;have hmm:= @run_makeMap Tryz.prog;clear vX h1 h2 hn1 hn2 hw2 hgr hb2 hHr;go_enter Tryz.func52,Tryz.ntmps52;go_wp2_with fail;rw[hfo.out,zk.out];clear hfo zk;refine hc.out.mono ?_;clear hc;rintro e w3 ⟨m,rfl,hm0,hK,hb⟩;have hH3:=GL.out.below hb GL.out.lt;have hB3:=hb2'.out.trans (hb.mono hb2'.out.size);have hsz3:=hB3.size;have q0:w3.cell? ⟨gr,0,none⟩=some (.map none):=hH3.cell 0;have q1:w3.cell? ⟨gr,1,none⟩=some (.map none):=hH3.cell 1;have f0:=hH3.frozen 0;have f1:=hH3.frozen 1;have ql:=hH3.lt;obtain⟨wa,hwa⟩:∃x,x=(w3.setCell ⟨gr,0,none⟩ (.map (some m))).setCell ⟨gr,1,none⟩ (.map (some w3.heap.size)):=⟨_,rfl⟩
 have hsa:wa.heap.size=w3.heap.size:=by rw[hwa];simp
 have hW:Writes [some gr] w3 wa:=by rw[hwa];exact(Writes.store w3 (by simp) _).trans (Writes.store _ (by simp) _)
 have hrm:gr≠m:=fun e=>hK.Fz q0 e;have hKa:=hK.writes hW (by simp;exact fun e=>hrm e.symm)
 have hHa:Holds wa gr 110 #[.map (some m),.map (some w3.heap.size)]:=by have:=(hH3.store 0 (.map (some m))).store 1 (.map (some w3.heap.size));rw[hwa];simpa using this
 have hBa:=hB3.trans (hW.below hB3.size fun j hj=>by simp at hj;omega);have hbz:=aA wa (.map #[] 0)
 have hS4:SMap (wa.alloc (.map #[] 0)) w3.heap.size 0 (sU []):=by
  have h:=SMap.made wa
  have e:sU []=fun _=>none:=by funext k;simp[sU]
  rw[e,←hsa];exact h
 have hmf:m≠w3.heap.size:=by have:=hK.lt;omega
 have hHz:=Za (hHa.below hbz hHa.lt);have hend:Hid (ClI m w3.heap.size (cZ (ps++ls)) [] (wa.alloc (.map #[] 0))∧w.heap.size≤w3.heap.size∧Below w.heap.size w (wa.alloc (.map #[] 0))):=Za
  ⟨⟨hKa.below hbz,hS4,by simp,hmf⟩,hsz3,hBa.trans (hbz.mono hBa.size)⟩
 have hfa:=Za hwa.symm;clear hwa hsa hW hrm hKa hHa hBa hbz hS4 hmf hK hb hH3 hB3 hsz3 hm0;go_wp2_with fail;rw[hfa.out];exact uq rfl rfl rfl hHz.out Tryz.underlying110 (by kernel_rfl) ⟨m,_,rfl,hend.out⟩
theorem BH (w:World) (f:Fnc) (A1 A2 A3:Option Addr) (c1 c2 c3:Nat) (hF:eP w Evr f (.slice A1 f.ps.length c1) (.slice A2 f.ls.length c2) (.slice A3 f.body.len c3)) (hc:jI (fun h=>hsC h+1) f.body≤500000):
  Calls Tryz.prog 17 #[.agg (fnC f.nm A1 A2 A3 f.ps.length c1 f.ls.length c2 f.body.len c3)] w fun e w'=>(∃v,e= .returned v∧w'.ownsRow w.heap.size 9 1 v (canon (each (hdP (cZ (f.ps++f.ls))) f.body)).length ((canon (each (hdP (cZ (f.ps++f.ls))) f.body)).map encStr))∧Below w.heap.size w w':=by
 obtain⟨nm,ps,ls,body⟩:=f;simp only at hF hc⊢;obtain⟨-,h1,h2,hB⟩:=hF;simp only at h1 h2 hB;have hco:=Za (fun(w:World) (h1:bY w Evr ps (.slice A1 ps.length c1)) (h2:bY w Evr ls (.slice A2 ls.length c2))=>nK w nm ps ls A1 A2 A3 c1 c2 body.len c3 h1 h2);unfold fnC at hco⊢;obtain⟨n1,hn1⟩:∃y,y=ps.length:=⟨_,rfl⟩;obtain⟨n2,hn2⟩:∃y,y=ls.length:=⟨_,rfl⟩;obtain⟨n3,hn3⟩:∃y,y=body.len:=⟨_,rfl⟩;rw[←hn1,←hn2,←hn3]at hco⊢;rw[←hn1]at h1;rw[←hn2]at h2;rw[←hn3]at hB;obtain⟨L,hL⟩:∃y,y=each (hdP (cZ (ps++ls))) body:=⟨_,rfl⟩;rw[←hL];obtain⟨w1,hw1⟩:∃x,x=w.alloc (.cells #[.string (ay nm),.slice A1 n1 c1,.slice A2 n2 c2,.slice A3 n3 c3] 26):=⟨_,rfl⟩;obtain⟨gp,hgp⟩:∃x,x=w.heap.size:=⟨_,rfl⟩
 have hb1:Below w.heap.size w w1:=by rw[hw1];exact aA w _
 have hHp:Holds w1 gp 26 #[.string (ay nm),.slice A1 n1 c1,.slice A2 n2 c2,.slice A3 n3 c3]:=by rw[hw1,hgp];exact Holds.new w _ _
 have q0:w1.cell? ⟨gp,0,none⟩=some (.string (ay nm)):=hHp.cell 0;have q1:w1.cell? ⟨gp,1,none⟩=some (.slice A1 n1 c1):=hHp.cell 1;have q2:w1.cell? ⟨gp,2,none⟩=some (.slice A2 n2 c2):=hHp.cell 2;have q3:w1.cell? ⟨gp,3,none⟩=some (.slice A3 n3 c3):=hHp.cell 3;have ql:=hHp.lt;have hc1:=Za (hco.out w1 (h1.keep fun x hx _=>hb1.block x hx) (h2.keep fun x hx _=>hb1.block x hx));have hBd:=Za hB;have hc':=Za hc;have hL':=Za hL;have g_:=Za hHp;have hb1':=Za hb1;have hfo:=Za hw1.symm;have jR:=Za hgp.symm;clear hco h1 h2 hB hn1 hn2 hn3 hL hw1 hgp hb1 hHp hc;go_enter Tryz.func17,Tryz.ntmps17;go_upto_region 1 with(fail);rw[hfo.out,jR.out];clear hfo jR;go_wp2_with fail;refine hc1.out.mono ?_;clear hc1 q0 q1 q2 q3 ql;rintro e w2 ⟨m,fm,rfl,hC,hfm0,hb2⟩;obtain⟨K,hKK⟩:∃K,K=cZ (ps++ls):=⟨_,rfl⟩;rw[←hKK]at hC;have hL2:Hid (L=each (hdP K) body):=Za (by rw[hL'.out,hKK]);obtain⟨w3,hw3⟩:∃x,x=w2.alloc (.cells #[.map (some m),.map (some fm)] 110):=⟨_,rfl⟩;obtain⟨gc,hgc⟩:∃x,x=w2.heap.size:=⟨_,rfl⟩
 have hb3:Below w2.heap.size w2 w3:=by rw[hw3];exact aA w2 _
 have hI3:CcI gc m fm K [] w3:=⟨hC.below hb3,by rw[hw3,hgc];exact Holds.new w2 _ _⟩;have hB2:=hb1'.out.trans (hb2.mono hb1'.out.size);have hB3:=hB2.trans (hb3.mono hB2.size);have hHp3:=(g_.out.below hb2 g_.out.lt).below hb3 (g_.out.below hb2 g_.out.lt).lt;have xM:w.heap.size≤fm:=Nat.le_trans hb1'.out.size hfm0
 have hS3:aQ w3 (bF [some fm]) body (.slice A3 n3 c3):=by
  have h1:=hBd.out.mono (S':=bF [some fm]) fun x hx _=>by unfold bF;simp;omega
  exact h1.keep fun x hx _=>hB3.block x hx
 have hwk:=Za (lq (BG gc m fm K) (some m) body.dep body (Nat.le_refl _) w3 [] _ hS3 (by unfold lW;simp;exact hc'.out) hI3);have hI3':=Za hI3;have q0:=(g_.out.below hb2 g_.out.lt).cell 3;have ql:=(g_.out.below hb2 g_.out.lt).lt;simp at q0;have hB3':=Za hB3;have hfo:=Za hw3.symm;have xI:=Za hgc.symm;have xK:=Za xM;clear hKK hL' hw3 hgc hb3 hI3 hB2 hB3 hHp3 xM hS3 hC hfm0 hb2 hb1' g_;go_wp2_with fail;rw[hfo.out,xI.out];refine hwk.out.mono ?_;clear hwk hfo xI q0 ql;rintro e w4 ⟨rfl,hI4,hW4⟩;rw[jW (fun s y=>by unfold cellsD;rw[zu]) body,List.nil_append]at hI4;rw[←hL2.out]at hI4;have hB4:=Za (hB3'.out.trans (hW4.below hB3'.out.size fun j hj=>by simp at hj;subst hj;exact xK.out));have hso:=Za (lV w4 m fm K L hI4.ci);obtain⟨p0,p1,pl⟩:=hI4.facts;clear hI4 hW4 hI3' hB3' hL2;go_wp2_with fail;refine hso.out.mono ?_;rintro e w5 ⟨⟨v,rfl,ho⟩,hb5⟩;have hv:=Za (own_base ho hB4.out.size);have hB5:=Za (hB4.out.trans (hb5.mono hB4.out.size));clear ho hb5 hso p0 p1 pl;go_wp2_with fail;go_ret;exact⟨⟨_,rfl,hv.out⟩,hB5.out⟩
theorem GZ (w:World) (f:Fnc) (A1 A2 A3:Option Addr) (c1 c2 c3:Nat) (hF:eP w Evr f (.slice A1 f.ps.length c1) (.slice A2 f.ls.length c2) (.slice A3 f.body.len c3)) (hc:jI (fun _=>1) f.body≤500000):
  Calls Tryz.prog 18 #[.agg (fnC f.nm A1 A2 A3 f.ps.length c1 f.ls.length c2 f.body.len c3)] w fun e w'=>(∃v,e= .returned v∧w'.ownsRow w.heap.size 9 1 v (canon (each (globs (cZ (f.ps++f.ls)) jd) f.body)).length ((canon (each (globs (cZ (f.ps++f.ls)) jd) f.body)).map encStr))∧Below w.heap.size w w':=by
 obtain⟨nm,ps,ls,body⟩:=f;simp only at hF hc⊢;obtain⟨-,h1,h2,hB⟩:=hF;simp only at h1 h2 hB;have hco:=Za (fun(w:World) (h1:bY w Evr ps (.slice A1 ps.length c1)) (h2:bY w Evr ls (.slice A2 ls.length c2))=>nK w nm ps ls A1 A2 A3 c1 c2 body.len c3 h1 h2);unfold fnC at hco⊢;obtain⟨n1,hn1⟩:∃y,y=ps.length:=⟨_,rfl⟩;obtain⟨n2,hn2⟩:∃y,y=ls.length:=⟨_,rfl⟩;obtain⟨n3,hn3⟩:∃y,y=body.len:=⟨_,rfl⟩;rw[←hn1,←hn2,←hn3]at hco⊢;rw[←hn1]at h1;rw[←hn2]at h2;rw[←hn3]at hB;obtain⟨L,hL⟩:∃y,y=each (globs (cZ (ps++ls)) jd) body:=⟨_,rfl⟩;rw[←hL];obtain⟨w1,hw1⟩:∃x,x=w.alloc (.cells #[.string (ay nm),.slice A1 n1 c1,.slice A2 n2 c2,.slice A3 n3 c3] 26):=⟨_,rfl⟩;obtain⟨gp,hgp⟩:∃x,x=w.heap.size:=⟨_,rfl⟩
 have hb1:Below w.heap.size w w1:=by rw[hw1];exact aA w _
 have hHp:Holds w1 gp 26 #[.string (ay nm),.slice A1 n1 c1,.slice A2 n2 c2,.slice A3 n3 c3]:=by rw[hw1,hgp];exact Holds.new w _ _
 have q0:w1.cell? ⟨gp,0,none⟩=some (.string (ay nm)):=hHp.cell 0;have q1:w1.cell? ⟨gp,1,none⟩=some (.slice A1 n1 c1):=hHp.cell 1;have q2:w1.cell? ⟨gp,2,none⟩=some (.slice A2 n2 c2):=hHp.cell 2;have q3:w1.cell? ⟨gp,3,none⟩=some (.slice A3 n3 c3):=hHp.cell 3;have ql:=hHp.lt;have hc1:=Za (hco.out w1 (h1.keep fun x hx _=>hb1.block x hx) (h2.keep fun x hx _=>hb1.block x hx));have hBd:=Za hB;have hc':=Za hc;have hL':=Za hL;have g_:=Za hHp;have hb1':=Za hb1;have hfo:=Za hw1.symm;have jR:=Za hgp.symm;clear hco h1 h2 hB hn1 hn2 hn3 hL hw1 hgp hb1 hHp hc;go_enter Tryz.func18,Tryz.ntmps18;go_upto_region 1 with(fail);rw[hfo.out,jR.out];clear hfo jR;go_wp2_with fail;refine hc1.out.mono ?_;clear hc1 q0 q1 q2 q3 ql;rintro e w2 ⟨m,fm,rfl,hC,hfm0,hb2⟩;obtain⟨K,hKK⟩:∃K,K=cZ (ps++ls):=⟨_,rfl⟩;rw[←hKK]at hC;have hL2:Hid (L=each (globs K jd) body):=Za (by rw[hL'.out,hKK]);obtain⟨w3,hw3⟩:∃x,x=w2.alloc (.cells #[.map (some m),.map (some fm)] 110):=⟨_,rfl⟩;obtain⟨gc,hgc⟩:∃x,x=w2.heap.size:=⟨_,rfl⟩
 have hb3:Below w2.heap.size w2 w3:=by rw[hw3];exact aA w2 _
 have hI3:CcI gc m fm K [] w3:=⟨hC.below hb3,by rw[hw3,hgc];exact Holds.new w2 _ _⟩;have hB2:=hb1'.out.trans (hb2.mono hb1'.out.size);have hB3:=hB2.trans (hb3.mono hB2.size);have hHp3:=(g_.out.below hb2 g_.out.lt).below hb3 (g_.out.below hb2 g_.out.lt).lt;have xM:w.heap.size≤fm:=Nat.le_trans hb1'.out.size hfm0
 have hS3:aQ w3 (bF [some fm]) body (.slice A3 n3 c3):=by
  have h1:=hBd.out.mono (S':=bF [some fm]) fun x hx _=>by unfold bF;simp;omega
  exact h1.keep fun x hx _=>hB3.block x hx
 have hwk:=Za (lq (Et gc m fm K) (some m) body.dep body (Nat.le_refl _) w3 [] _ hS3 (by unfold lW;simp;exact hc'.out) hI3);have hI3':=Za hI3;have q0:=(g_.out.below hb2 g_.out.lt).cell 3;have ql:=(g_.out.below hb2 g_.out.lt).lt;simp at q0;have hB3':=Za hB3;have hfo:=Za hw3.symm;have xI:=Za hgc.symm;have xK:=Za xM;clear hKK hL' hw3 hgc hb3 hI3 hB2 hB3 hHp3 xM hS3 hC hfm0 hb2 hb1' g_;go_wp2_with fail;rw[hfo.out,xI.out];refine hwk.out.mono ?_;clear hwk hfo xI q0 ql;rintro e w4 ⟨rfl,hI4,hW4⟩;rw[jW (fun s y=>by unfold Eu;rw[BM]) body,List.nil_append]at hI4;rw[←hL2.out]at hI4;have hB4:=Za (hB3'.out.trans (hW4.below hB3'.out.size fun j hj=>by simp at hj;subst hj;exact xK.out));have hso:=Za (lV w4 m fm K L hI4.ci);obtain⟨p0,p1,pl⟩:=hI4.facts;clear hI4 hW4 hI3' hB3' hL2;go_wp2_with fail;refine hso.out.mono ?_;rintro e w5 ⟨⟨v,rfl,ho⟩,hb5⟩;have hv:=Za (own_base ho hB4.out.size);have hB5:=Za (hB4.out.trans (hb5.mono hB4.out.size));clear ho hb5 hso p0 p1 pl;go_wp2_with fail;go_ret;exact⟨⟨_,rfl,hv.out⟩,hB5.out⟩
theorem Ei (w:World) (f:Fnc) (A1 A2 A3:Option Addr) (c1 c2 c3:Nat) (hF:eP w Evr f (.slice A1 f.ps.length c1) (.slice A2 f.ls.length c2) (.slice A3 f.body.len c3)) (hc:jI (fun _=>1) f.body≤500000):
  Calls Tryz.prog 19 #[.agg (fnC f.nm A1 A2 A3 f.ps.length c1 f.ls.length c2 f.body.len c3)] w fun e w'=>(∃v,e= .returned v∧w'.ownsRow w.heap.size 9 1 v (canon (each (globs (cZ (f.ps++f.ls)) iw) f.body)).length ((canon (each (globs (cZ (f.ps++f.ls)) iw) f.body)).map encStr))∧Below w.heap.size w w':=by
 obtain⟨nm,ps,ls,body⟩:=f;simp only at hF hc⊢;obtain⟨-,h1,h2,hB⟩:=hF;simp only at h1 h2 hB;have hco:=Za (fun(w:World) (h1:bY w Evr ps (.slice A1 ps.length c1)) (h2:bY w Evr ls (.slice A2 ls.length c2))=>nK w nm ps ls A1 A2 A3 c1 c2 body.len c3 h1 h2);unfold fnC at hco⊢;obtain⟨n1,hn1⟩:∃y,y=ps.length:=⟨_,rfl⟩;obtain⟨n2,hn2⟩:∃y,y=ls.length:=⟨_,rfl⟩;obtain⟨n3,hn3⟩:∃y,y=body.len:=⟨_,rfl⟩;rw[←hn1,←hn2,←hn3]at hco⊢;rw[←hn1]at h1;rw[←hn2]at h2;rw[←hn3]at hB;obtain⟨L,hL⟩:∃y,y=each (globs (cZ (ps++ls)) iw) body:=⟨_,rfl⟩;rw[←hL];obtain⟨w1,hw1⟩:∃x,x=w.alloc (.cells #[.string (ay nm),.slice A1 n1 c1,.slice A2 n2 c2,.slice A3 n3 c3] 26):=⟨_,rfl⟩;obtain⟨gp,hgp⟩:∃x,x=w.heap.size:=⟨_,rfl⟩
 have hb1:Below w.heap.size w w1:=by rw[hw1];exact aA w _
 have hHp:Holds w1 gp 26 #[.string (ay nm),.slice A1 n1 c1,.slice A2 n2 c2,.slice A3 n3 c3]:=by rw[hw1,hgp];exact Holds.new w _ _
 have q0:w1.cell? ⟨gp,0,none⟩=some (.string (ay nm)):=hHp.cell 0;have q1:w1.cell? ⟨gp,1,none⟩=some (.slice A1 n1 c1):=hHp.cell 1;have q2:w1.cell? ⟨gp,2,none⟩=some (.slice A2 n2 c2):=hHp.cell 2;have q3:w1.cell? ⟨gp,3,none⟩=some (.slice A3 n3 c3):=hHp.cell 3;have ql:=hHp.lt;have hc1:=Za (hco.out w1 (h1.keep fun x hx _=>hb1.block x hx) (h2.keep fun x hx _=>hb1.block x hx));have hBd:=Za hB;have hc':=Za hc;have hL':=Za hL;have g_:=Za hHp;have hb1':=Za hb1;have hfo:=Za hw1.symm;have jR:=Za hgp.symm;clear hco h1 h2 hB hn1 hn2 hn3 hL hw1 hgp hb1 hHp hc;go_enter Tryz.func19,Tryz.ntmps19;go_upto_region 1 with(fail);rw[hfo.out,jR.out];clear hfo jR;go_wp2_with fail;refine hc1.out.mono ?_;clear hc1 q0 q1 q2 q3 ql;rintro e w2 ⟨m,fm,rfl,hC,hfm0,hb2⟩;obtain⟨K,hKK⟩:∃K,K=cZ (ps++ls):=⟨_,rfl⟩;rw[←hKK]at hC;have hL2:Hid (L=each (globs K iw) body):=Za (by rw[hL'.out,hKK]);obtain⟨w3,hw3⟩:∃x,x=w2.alloc (.cells #[.map (some m),.map (some fm)] 110):=⟨_,rfl⟩;obtain⟨gc,hgc⟩:∃x,x=w2.heap.size:=⟨_,rfl⟩
 have hb3:Below w2.heap.size w2 w3:=by rw[hw3];exact aA w2 _
 have hI3:CcI gc m fm K [] w3:=⟨hC.below hb3,by rw[hw3,hgc];exact Holds.new w2 _ _⟩;have hB2:=hb1'.out.trans (hb2.mono hb1'.out.size);have hB3:=hB2.trans (hb3.mono hB2.size);have hHp3:=(g_.out.below hb2 g_.out.lt).below hb3 (g_.out.below hb2 g_.out.lt).lt;have xM:w.heap.size≤fm:=Nat.le_trans hb1'.out.size hfm0
 have hS3:aQ w3 (bF [some fm]) body (.slice A3 n3 c3):=by
  have h1:=hBd.out.mono (S':=bF [some fm]) fun x hx _=>by unfold bF;simp;omega
  exact h1.keep fun x hx _=>hB3.block x hx
 have hwk:=Za (lq (Eh gc m fm K) (some m) body.dep body (Nat.le_refl _) w3 [] _ hS3 (by unfold lW;simp;exact hc'.out) hI3);have hI3':=Za hI3;have q0:=(g_.out.below hb2 g_.out.lt).cell 3;have ql:=(g_.out.below hb2 g_.out.lt).lt;simp at q0;have hB3':=Za hB3;have hfo:=Za hw3.symm;have xI:=Za hgc.symm;have xK:=Za xM;clear hKK hL' hw3 hgc hb3 hI3 hB2 hB3 hHp3 xM hS3 hC hfm0 hb2 hb1' g_;go_wp2_with fail;rw[hfo.out,xI.out];refine hwk.out.mono ?_;clear hwk hfo xI q0 ql;rintro e w4 ⟨rfl,hI4,hW4⟩;rw[jW (fun s y=>by unfold Ej;rw[BJ]) body,List.nil_append]at hI4;rw[←hL2.out]at hI4;have hB4:=Za (hB3'.out.trans (hW4.below hB3'.out.size fun j hj=>by simp at hj;subst hj;exact xK.out));have hso:=Za (lV w4 m fm K L hI4.ci);obtain⟨p0,p1,pl⟩:=hI4.facts;clear hI4 hW4 hI3' hB3' hL2;go_wp2_with fail;refine hso.out.mono ?_;rintro e w5 ⟨⟨v,rfl,ho⟩,hb5⟩;have hv:=Za (own_base ho hB4.out.size);have hB5:=Za (hB4.out.trans (hb5.mono hB4.out.size));clear ho hb5 hso p0 p1 pl;go_wp2_with fail;go_ret;exact⟨⟨_,rfl,hv.out⟩,hB5.out⟩
structure Ez (g g':Nat) (cs cs':Array Value) (w0 w:World):Prop where
 h1:Holds w g 63 cs
 h2:Holds w g' 63 cs'
 bl:Below w0.heap.size w0 w
theorem Ez.below {g g':Nat} {cs cs':Array Value} {w0 w w':World} (h:Ez g g' cs cs' w0 w) (hb:Below w.heap.size w w'):Ez g g' cs cs' w0 w':=⟨h.h1.below hb h.h1.lt,h.h2.below hb h.h2.lt,h.bl.trans (hb.mono h.bl.size)⟩
theorem dQ.up {w w':World} {A:Option Addr} {k:Nat} {l:Sl} {us:List Value} (H:dQ w Evr A k l us) (hb:Below w.heap.size w w'):dQ w' Evr A k l us:=by
 refine⟨H.cs.keep fun x hx _=>hb.block x hx,fun hne=> ?_⟩;obtain⟨b,off,e,hS,hc⟩:=H.row hne;refine⟨b,off,e,hS,fun j u hu=> ?_⟩;have h1:=hc j u hu;rw[←h1];exact World.cell?_of_block (hb.block b (lt_of_cell h1))
theorem AQ (F:FnV) (w:World) (h:Hd) (pe pf pc Aa At Al:Option Addr) (na ca nt ct nl cl:Nat) (S:Nat→Prop) (hF:F.ok w) (H:dn w S h (.pointer pe) (.pointer pf) (.pointer pc) (.slice Aa na ca)):
  Calls Tryz.prog 93 #[.agg F.cells,.agg (stC h pe pf pc Aa At Al na ca nt ct nl cl)] w (qH S F.K h At Al nt ct nl cl w):=by
 have hk:=H.k;obtain⟨k,hx,hy,he,hf,hc,hg,ha⟩:=h;simp only at hk;rcases(show k=0∨k=8∨(k=1∨k=2∨k=3∨k=4)∨(k=5∨k=6∨k=7∨k=9)∨(k=10∨k=11∨k=12)by omega)with h0|h0|h0|h0|h0
 ·exact yM F w k hx hy he hf hc hg ha h0 pe pf pc Aa At Al na ca nt ct nl cl S hF H
 ·exact yO F w k hx hy he hf hc hg ha h0 pe pf pc Aa At Al na ca nt ct nl cl S hF H
 ·exact AO F w k hx hy he hf hc hg ha h0 pe pf pc Aa At Al na ca nt ct nl cl S hF H
 ·exact AP F w k hx hy he hf hc hg ha h0 pe pf pc Aa At Al na ca nt ct nl cl S hF H
 ·exact yN F w k hx hy he hf hc hg ha h0 pe pf pc Aa At Al na ca nt ct nl cl S hF H
def Sl.app:Sl→Sl→Sl
 | .nil,y=>y
 | .cons h t e r,y=> .cons h t e (r.app y)
theorem Sl.zZ:∀(l:Sl),l.app .nil=l
 | .nil=>rfl
 | .cons h t e r=>by show Sl.cons h t e (r.app .nil)=_;rw[Sl.zZ r]
theorem Sl.wS:∀(l:Sl) (h:Hd) (t e y:Sl),(l.snoc h t e).app y=l.app (.cons h t e y)
 | .nil,_,_,_,_=>rfl
 | .cons a b c r,h,t,e,y=>by show Sl.cons a b c ((r.snoc h t e).app y)=_;rw[Sl.wS r];rfl
def r_ (d:Sl) (r:Sl×Option Nat):Sl×Option Nat:=match r.2 with|some a=>(.nil,some a)|none=>(d.app r.1,none)
def atI:Option Nat→Int
 |some a=>a
 |none=> -1
theorem Ef (d:Sl):r_ d (.nil,none)=(d,none):=by unfold r_;simp only[Sl.zZ]
section
variable {K:List UInt8→Nat} {h:Hd} {t e r:Sl}
theorem qQ (h1:(aS K h).2=false):aO K (.cons h t e r)=(.nil,some h.at_):=by
 unfold aO;rw[if_neg (by rw[h1];simp)]
theorem wJ (h1:(aS K h).2=true) {a:Nat} (h2:(aO K (gy K h t)).2=some a):aO K (.cons h t e r)=(.nil,some a):=by
 unfold aO;rw[if_pos h1];unfold gy at h2;by_cases ht:turned K h=true
 ·rw[if_pos ht]at h2;cases h2
 ·rw[if_neg ht]at h2⊢;rw[h2]
theorem wK (h1:(aS K h).2=true) (h2:(aO K (gy K h t)).2=none) {a:Nat} (h3:(aO K (gy K h e)).2=some a):aO K (.cons h t e r)=(.nil,some a):=by
 unfold aO;rw[if_pos h1];unfold gy at h2 h3;by_cases ht:turned K h=true
 ·rw[if_pos ht]at h3;cases h3
 ·rw[if_neg ht]at h2 h3⊢;rw[h2];simp only[h3]
theorem tZ (d:Sl) (h1:(aS K h).2=true) (h2:(aO K (gy K h t)).2=none) (h3:(aO K (gy K h e)).2=none):r_ d (aO K (.cons h t e r))=r_ (d.snoc (aS K h).1 (aO K (gy K h t)).1 (aO K (gy K h e)).1) (aO K r):=by
 have e0:aO K (.cons h t e r)=match (aO K r).2 with|some a=>(.nil,some a)|none=>(.cons (aS K h).1 (aO K (gy K h t)).1 (aO K (gy K h e)).1 (aO K r).1,none):=by
  conv=>lhs;unfold aO
  rw[if_pos h1];unfold gy at h2 h3⊢;by_cases ht:turned K h=true
  ·rw[if_pos ht,if_pos ht,if_pos ht];rfl
  ·rw[if_neg ht]at h2 h3⊢;rw[if_neg ht,if_neg ht,h2];simp only[h3];rfl
 rw[e0]
 cases hr:(aO K r).2 with
 |some a=>simp only[r_,hr]
 |none=>simp only[r_,hr,Sl.wS]
end
def RSt (F:FnV) (l:Sl):Prop:=∀(w:World) (v:Value) (S:Nat→Prop),F.ok w→aQ w S l v→
 Calls Tryz.prog 45 #[.agg F.cells,v] w fun e w'=>∃v',e= .returned (.tuple #[v',.int .i64 (atI (aO F.K l).2)])∧aQ w' (fun x=>S x∨w.heap.size≤x) (aO F.K l).1 v'∧Below w.heap.size w w'
structure sO (S:Nat→Prop) (B0 B:Nat) (d:Sl) (v:Value) (us:List Value) (w:World):Prop where
 own:w.ownsRow B 63 10 v d.len us
 cs:aN w (fun x=>(S x∨B0≤x)∧some x≠v.ownBlock) d us
theorem sO.below {S:Nat→Prop} {B0 B:Nat} {d:Sl} {v:Value} {us:List Value} {w w':World} (h:sO S B0 B d v us w) (hb:Below w.heap.size w w'):sO S B0 B d v us w':=⟨own_below h.own hb,h.cs.keep fun x hx _=>hb.block x hx⟩
theorem sO.sl {S:Nat→Prop} {B0 B:Nat} {d:Sl} {v:Value} {us:List Value} {w:World} (h:sO S B0 B d v us w) (hB:B0≤B) (hd:d.len≤100000):aQ w (fun x=>S x∨B0≤x) d v:=by
 obtain⟨A,c,rfl,hr,hc⟩:=bI.own (S:=fun x=>S x∨B0≤x) h.own (fun g hg=> .inr (Nat.le_trans hB (bD h.own hg)));exact⟨A,c,us,rfl,hd,hc,hr,h.cs.mono fun _ _ h=>h.1⟩
theorem sO.push {S:Nat→Prop} {B0 B:Nat} {d:Sl} {v v':Value} {us:List Value} {w wb w4:World} {h:Hd} {t e:Sl} {ve vf vc va vt vl:Value} (hO:sO S B0 B d v us w) (hh:dn w (fun x=>(S x∨B0≤x)∧some x≠v.ownBlock) h ve vf vc va)
  (ht:aQ w (fun x=>(S x∨B0≤x)∧some x≠v.ownBlock) t vt) (he:aQ w (fun x=>(S x∨B0≤x)∧some x≠v.ownBlock) e vl) (hb:Below w.heap.size w wb) (hg:wb.grownBy w4 v.ownBlock) (hv:v'.ownBlock=v.ownBlock∨v'.ownBlock=some wb.heap.size)
  (ho:w4.ownsRow B 63 10 v' (d.len+1) (us++(h.cells ve vf vc va vt vl).toList)):sO S B0 B (d.snoc h t e) v' (us++(h.cells ve vf vc va vt vl).toList) w4:=by
 refine⟨jL ho (Sl.nR _ _ _ _).symm,?_⟩;have h3:=(hO.cs.snoc hh ht he).keep fun x hx _=>hb.block x hx
 have h5:aN wb (fun x=>((S x∨B0≤x)∧some x≠v.ownBlock)∧((S x∨B0≤x)∧some x≠v'.ownBlock)) _ _:=h3.mono fun x hx hS=>⟨hS,hS.1,by
  rcases hv with hv|hv
  ·rw[hv];exact hS.2
  ·rw[hv];simp;omega⟩
 exact(h5.keep fun x hx hS=>hg.block x hx hS.1.2).mono fun _ _ hS=>hS.2
theorem wU (F:FnV) (l0:Sl) (ih:∀l',l'.dep<l0.dep→RSt F l'):RSt F l0:=by
 intro w v S hF hv;obtain⟨iA,hiA,hzA0,hzA1,hzA2⟩:=info_parts Tryz.clStmt;obtain⟨A,c,us0,e,hlen,hlc,hR⟩:=hv.rest;subst e;obtain⟨R,hRR⟩:∃R,R=aO F.K l0:=⟨_,rfl⟩;rw[←hRR];obtain⟨n,hn⟩:∃y,y=l0.len:=⟨_,rfl⟩;rw[←hn]at hlen hlc⊢;obtain⟨w1,hw1⟩:∃y,y=w.alloc (.cells F.cells 26):=⟨_,rfl⟩;obtain⟨gp,hgp⟩:∃y,y=w.heap.size:=⟨_,rfl⟩;have hB1:=RfB.new hF;rw[←hw1,←hgp]at hB1;have h0:Hid (dQ w S A 0 l0 us0):=Za hR;have hn0:Hid (0+l0.len=n):=Za (by rw[hn];simp);have hd0:Hid (l0.dep≤l0.dep):=Za (Nat.le_refl _)
 have hR0:Hid (r_ .nil (aO F.K l0)=R):=Za (by
  rw[hRR];unfold r_
  cases hr:(aO F.K l0).2 with
  |some a=>
   have:(aO F.K l0).1= .nil:=by
    cases l0 with
    |nil=>rfl
    |cons h t e r=>
     cases h1:(aS F.K h).2 with
     |false=>rw[qQ h1]
     |true=>
      cases h2:(aO F.K (gy F.K h t)).2 with
      |some b=>rw[wJ h1 h2]
      |none=>
       cases h3:(aO F.K (gy F.K h e)).2 with
       |some b=>rw[wK h1 h2 h3]
       |none=>
        have h4:=tZ (r:=r) .nil h1 h2 h3;unfold r_ at h4;rw[hr]at h4
        cases h5:(aO F.K r).2 with
        |some b=>
         unfold aO;rw[if_pos h1];unfold gy at h2 h3;by_cases ht:turned F.K h=true
         ·rw[if_pos ht];simp only[h5]
         ·rw[if_neg ht]at h2 h3⊢;simp only[h2,h3,h5]
        |none=>rw[h5]at h4;cases h4
   simp only;rw[←this,←hr]
  |none=>simp only[Sl.app];rw[←hr])
 have hO0:Hid (sO S w.heap.size w1.heap.size .nil (.slice none 0 0) [] w1):=Za ⟨World.ownsRow_nil _ _ _ _,rfl⟩;have hw01:=Za hB1.bl.size;have hgw:=Za hB1.hg.lt;have hB1':=Za hB1;have hih:=Za ih;have hF':=Za hF;have hfo:=Za hw1.symm;have jR:=Za hgp.symm;unfold FnV.cells at hfo⊢;clear hv hR hn ih hw1 hgp hB1 hF hRR;go_enter Tryz.func45,Tryz.ntmps45;go_upto_region 1 with(fail);rw[hfo.out,jR.out];clear hfo jR;go_wp2_with fail;go_loopw [6,7] (fun u6 i wl=>∃(k:Nat) (ls d:Sl) (vs us:List Value),k≤n∧i= .int .i64 k∧Hid (dQ w S A k ls vs)∧Hid (sO S w.heap.size w1.heap.size d u6 us wl)∧Hid (r_ d (aO F.K ls)=R)∧Hid (k+ls.len=n)∧Hid (ls.dep≤l0.dep)∧Hid (RfB F gp w wl)∧Hid (d.len=k)∧Hid (w1.heap.size≤wl.heap.size)) (fun _ i _=>n-(intOf i).toNat)
 case atStart=>exact⟨0,l0,.nil,us0,[],by omega,rfl,h0,hO0,hR0,hn0,hd0,hB1',Za rfl,Za (Nat.le_refl _)⟩
 clear h0 hO0 hR0 hn0 hd0 hB1';obtain⟨k,ls,d,vs,us,hkn,rfl,hR,hO,hRe,hln,hdp,hB,hdl,hsz⟩:=hrel;rename World=>wl
 cases ls with
 |nil=>
  have hkn2:k=n:=by have:=hln.out;simp[Sl.len]at this;exact this
  subst hkn2;have hRR:Hid (R=(d,none)):=Za (by rw[←hRe.out];exact Ef d);have hSl:=Za (hO.out.sl hw01.out (by rw[hdl.out];exact hlen));clear hR hO hRe;go_wp2_with fail
  go_ret2
  exact⟨u6,by rw[hRR.out];rfl,by rw[hRR.out];exact hSl.out,hB.out.bl⟩
 |cons h t e r=>
  have hlt:k<n:=by have:=hln.out;simp only[Sl.len]at this;omega
  obtain⟨b,off,pe,pf,pc,Aa,ca,At,ct,Al,cl,us',hA,hh,ht,he,hc,hrest⟩:=hR.out.next;subst hA;have hrest':=Za hrest;have hdt:Hid (t.dep<l0.dep∧e.dep<l0.dep∧r.dep≤l0.dep∧0<l0.dep):=Za (by have:=hdp.out;rw[Sl.lU]at this;omega);have hrl:Hid (k+1+r.len=n):=Za (by have:=hln.out;simp only[Sl.len]at this;omega);obtain⟨Sx,hSx⟩:∃Sx:Nat→Prop,Sx=fun x=>(S x∨w.heap.size≤x)∧some x≠u6.ownBlock:=⟨_,rfl⟩
  have hin:∀x,x<w.heap.size→S x→Sx x:=fun x hx hs=>by rw[hSx];refine⟨.inl hs,fun e=> ?_⟩;have h1:=bD hO.out.own e.symm;have h2:=hw01.out;omega
  have hup:Hid (∀(wx:World) (x:Nat),wl.heap.size≤wx.heap.size→wx.heap.size≤x→Sx x):=Za fun wx x h1 h2=>by rw[hSx];exact⟨.inr (by have:=hB.out.bl.size;omega),FM hO.out.own (by omega)⟩
  have hSx':=Za hSx;obtain⟨wW,hwd⟩:∃y,y=wl.drew:=⟨_,rfl⟩
  have hbd:Below wl.heap.size wl wW:=by rw[hwd];exact(Below.refl _ wl).drew
  have hBW:=Za (hB.out.below hbd);have hOW:=Za (hO.out.below hbd);have hszW:=Za (show wl.heap.size≤wW.heap.size from hbd.size);have hin2:∀x,x<w.heap.size→S x→x<wW.heap.size∧Sx x:=fun x hx hs=>⟨Nat.lt_of_lt_of_le hx hBW.out.bl.size,hin x hx hs⟩;have hhW:=(hh.mono (S':=fun x=>x<wW.heap.size∧Sx x) hin2).keep fun x hx _=>hBW.out.bl.block x hx;have htW:=(ht.mono (S':=fun x=>x<wW.heap.size∧Sx x) hin2).keep fun x hx _=>hBW.out.bl.block x hx;have heW:=(he.mono (S':=fun x=>x<wW.heap.size∧Sx x) hin2).keep fun x hx _=>hBW.out.bl.block x hx;obtain⟨na,hna1⟩:∃y,y=h.args.length:=⟨_,rfl⟩;obtain⟨nt,hnt1⟩:∃y,y=t.len:=⟨_,rfl⟩;obtain⟨nl,hnl1⟩:∃y,y=e.len:=⟨_,rfl⟩;rw[←hna1]at hhW;rw[←hnt1]at htW;rw[←hnl1]at heW
  have hq:∀(wx:World),Below wW.heap.size wW wx→∀j (hj:j<10),wx.cell? ⟨b,off+k*10+j,none⟩=some ((stC h pe pf pc Aa At Al na ca nt ct nl cl)[j]'hj):=fun wx hx j hj=>by have h1:=((hBW.out.below (hx.mono (Nat.le_refl _))).bl.cell (p:=⟨b,off+k*10+j,none⟩) (lt_of_cell (hc j hj))).trans (hc j hj);rw[h1];subst hna1 hnt1 hnl1;rfl
  have hfc:Hid (∀wx,Below wW.heap.size wW wx→(wx.cell? ⟨gp,0,none⟩=some (.string (ay F.nm))∧wx.cell? ⟨gp,1,none⟩=some (.slice F.A1 F.ps.length F.c1)∧wx.cell? ⟨gp,2,none⟩=some (.slice F.A2 F.ls.length F.c2)∧wx.cell? ⟨gp,3,none⟩=some (.slice F.A3 F.n3 F.c3)∧gp<wx.heap.size)∧
    wx.cell? ⟨b,off+k*10,none⟩=some (.int .i64 h.k)∧wx.cell? ⟨b,off+k*10+1,none⟩=some (.string (ay h.x))∧wx.cell? ⟨b,off+k*10+2,none⟩=some (.string (ay h.y))∧wx.cell? ⟨b,off+k*10+3,none⟩=some (.pointer pe)∧wx.cell? ⟨b,off+k*10+4,none⟩=some (.pointer pf)∧wx.cell? ⟨b,off+k*10+5,none⟩=some (.pointer pc)∧wx.cell? ⟨b,off+k*10+6,none⟩=some (.slice Aa na ca)∧wx.cell? ⟨b,off+k*10+7,none⟩=some (.slice At nt ct)∧wx.cell? ⟨b,off+k*10+8,none⟩=some (.slice Al nl cl)∧wx.cell? ⟨b,off+k*10+9,none⟩=some (.int .i64 h.at_)∧b<wx.heap.size):=
   Za fun wx hx=>⟨(hBW.out.below hx).facts,hq wx hx 0 (by decide),hq wx hx 1 (by decide),hq wx hx 2 (by decide),hq wx hx 3 (by decide),hq wx hx 4 (by decide),hq wx hx 5 (by decide),hq wx hx 6 (by decide),hq wx hx 7 (by decide),hq wx hx 8 (by decide),hq wx hx 9 (by decide),lt_of_cell (hq wx hx 9 (by decide))⟩
  have hcall:Hid (∀(wx:World) (γ1:Option Nat),Below wW.heap.size wW wx→(∀g,γ1=some g→wW.heap.size≤g∧g<wx.heap.size)→Calls Tryz.prog 93 #[.agg #[.string (ay F.nm),.slice F.A1 F.ps.length F.c1,.slice F.A2 F.ls.length F.c2,.slice F.A3 F.n3 F.c3],.agg #[.int .i64 h.k,.string (ay h.x),.string (ay h.y),.pointer pe,.pointer pf,.pointer pc,.slice Aa na ca,.slice At nt ct,.slice Al nl cl,.int .i64 h.at_]] wx fun e' w1=>∃z:Zs,e'= .returned (.tuple #[.agg z.cells,.bool (aS F.K h).2])∧Below wx.heap.size wx w1∧OkZ Sx F.K h t e z w1 γ1):=
   Za fun wx γ1 hx hγ=>by
    refine(AQ F wx h pe pf pc Aa At Al na ca nt ct nl cl (fun x=>x<wW.heap.size∧Sx x) (hBW.out.below hx).ok (hhW.keep fun x hx1 _=>hx.block x hx1)).mono ?_;rintro e' w1 ⟨h',pe',pf',pc',Aa',na',ca',At',nt',ct',Al',nl',cl',he',hb1,hok⟩
    have hFr:∀x,(x<wW.heap.size∧Sx x)∨wx.heap.size≤x→Fre Sx γ1 x:=fun x hx1=>by
     rcases hx1 with⟨h1,h2⟩|h1
     ·exact⟨h2,fun e1=>by have:=(hγ x e1).1;omega⟩
     ·exact⟨hup.out wx x (Nat.le_trans hszW.out hx.size) h1,fun e1=>by have:=(hγ x e1).2;omega⟩
    refine⟨⟨h',pe',pf',pc',Aa',na',ca',At',nt',ct',Al',nl',cl'⟩,he',hb1,fun hs=> ?_⟩;obtain⟨e1,hd1,ht1,hf1⟩:=hok hs;refine⟨e1,hd1.mono fun x _ hx1=>hFr x hx1,?_,?_⟩
    ·cases htn:turned F.K h with
     |true=>
      obtain⟨a1,a2,a3,-⟩:=ht1 htn;simp only[gy,htn,if_true,a1,a2,a3];exact aQ.nil_ _ _
     |false=>
      obtain⟨a1,a2,a3,-⟩:=hf1 htn;simp only[gy,htn,a1,a2,a3];exact((htW.keep fun x hx1 _=>hx.block x hx1).mono fun x _ hx1=>hFr x (.inl hx1)).below hb1
    ·cases htn:turned F.K h with
     |true=>
      obtain⟨-,-,-,a1,a2,a3⟩:=ht1 htn;simp only[gy,htn,if_true,a1,a2,a3];exact aQ.nil_ _ _
     |false=>
      obtain⟨-,-,-,a1,a2,a3⟩:=hf1 htn;simp only[gy,htn,a1,a2,a3];exact((heW.keep fun x hx1 _=>hx.block x hx1).mono fun x _ hx1=>hFr x (.inl hx1)).below hb1
  have hq0:=hq;clear hq;have hfd:=Za hwd.symm;have hbq:=Za (lt_of_cell (hq0 wW (Below.refl _ _) 9 (by decide)));clear hq0 hin hin2 hSx hwd hbd hhW htW heW hh ht he hc hrest hnt1 hnl1 hna1 hO hR;go_wp2_with fail;refine qM ((eqv (.agg #[.string (ay F.nm),.slice F.A1 F.ps.length F.c1,.slice F.A2 F.ls.length F.c2,.slice F.A3 F.n3 F.c3]))::(eqv (.slice (some ⟨b,off,none⟩) n c))::(eqv (.int .i64 k))::(eqv (.pointer (some ⟨b,off+k*10,none⟩)))::(eqv (.agg #[.int .i64 h.k,.string (ay h.x),.string (ay h.y),.pointer pe,.pointer pf,.pointer pc,.slice Aa na ca,.slice At nt ct,.slice Al nl cl,.int .i64 h.at_]))::(fun L (W:World×Gz) v=>L 5=true∧∃z:Zs,W.2.2=some z∧v= .tuple #[.agg z.cells,.bool (aS F.K h).2])::(fun L (W:World×Gz) v=>L 5=true∧∃z:Zs,W.2.2=some z∧v= .tuple #[.agg z.cells,.bool (aS F.K h).2])::(fun L (W:World×Gz) v=>L 5=true∧∃z:Zs,W.2.2=some z∧v= .agg z.cells)::(eqv (.bool (aS F.K h).2))::(fun L (W:World×Gz) v=>∃g,W.2.1=some g∧v= .pointer (some ⟨g,0,none⟩))::(fun _ _ _=>True)::(eqv (.bool (aS F.K h).2))::[])
   ((rn1 2)::(rn1 1)::(rn1 7)::⟨[(21,some 1),(22,some 2)],0,[]⟩::(rd1 23 3)::⟨[(20,some 0),(24,some 4)],0,[]⟩::(rd1 25 5)::(rd1 19 6)::(rd1 19 6)::⟨[],0,[]⟩::⟨[(8,some 9),(26,some 7)],0,[]⟩::(rd1 27 8)::[])
   (no::no::no::no::no::no::no::no::so 9::so 11::no::no::no::no::no::no::no::no::no::so 6::so 0::so 1::so 2::so 3::so 4::so 5::so 7::so 8::[])
   (fun L (W:World×Gz)=>CSt Sx F.K h t e wW L W) (fun i (W W':World×Gz)=>GSt i W W') ?mixK5sts ?okK5sts ?tabK5sts ?frK5sts ?inK5sts ?keptK5sts ((none,none):Gz) ?startK5sts ?eachK5sts ?finK5sts
  case mixK5sts|okK5sts|tabK5sts|frK5sts=>kernel_rfl
  case inK5sts=>rfl
  case keptK5sts=>exact⟨fun _ _ _ _ _ _ _ _ _ _ _ h=>h,fun _ _ _ _ _ _ _ _ _ _ _ h=>h,fun _ _ _ _ _ _ _ _ _ _ _ h=>h,fun _ _ _ _ _ _ _ _ _ _ _ h=>h,fun _ _ _ _ _ _ _ _ _ _ _ h=>h,fun i hne hrd L W W' v hLi hC hC' hG ⟨h5,z,h1,h2⟩=>by
     have n5:i≠5:=fun e=>by subst e;rw[h5]at hLi;cases hLi
     exact⟨by simp[h5],z,(hG.2 n5).trans h1,h2⟩,fun i hne hrd L W W' v hLi hC hC' hG ⟨h5,z,h1,h2⟩=>by
     have n5:i≠5:=fun e=>by subst e;rw[h5]at hLi;cases hLi
     exact⟨by simp[h5],z,(hG.2 n5).trans h1,h2⟩,fun i hne hrd L W W' v hLi hC hC' hG ⟨h5,z,h1,h2⟩=>by
     have n5:i≠5:=fun e=>by subst e;rw[h5]at hLi;cases hLi
     exact⟨by simp[h5],z,(hG.2 n5).trans h1,h2⟩,fun _ _ _ _ _ _ _ _ _ _ _ h=>h,fun i hne hrd L W W' v hLi hC hC' hG ⟨g,h1,h2⟩=>⟨g,(hG.1 hne).trans h1,h2⟩,fun _ _ _ _ _ _ _ _ _ _ _ h=>h,fun _ _ _ _ _ _ _ _ _ _ _ h=>h,trivial⟩
  case startK5sts=>exact CSt.start (by have e0:wW=wl.drew:=hfd.out.symm;rw[e0];exact Below.refl _ _) rfl rfl rfl
  case eachK5sts=>
   repeat' first|exact trivial|refine And.intro ?_ ?_
   ·intro w γ L f hC hLi hLd hLn ⟨a,_⟩;change _=_ at a;refine au.live rfl ?_;obtain⟨⟨p0,p1,p2,p3,pl⟩,q0,q1,q2,q3,q4,q5,q6,q7,q8,q9,ql⟩:=hfc.out w hC.bel;refine bZ γ ?_;obtain⟨ev,ec,ef⟩:=evs f;refine aj ?_ (hC.other (i:=0) (by decide) (by decide) (by decide) (Below.refl _ _)) ⟨fun _=>rfl,fun _=>rfl⟩ rfl;go_simp
   ·intro w γ L f hC hLi hLd hLn ⟨d,_⟩;refine au.live rfl ?_;refine bZ γ ?_;exact aj (v:=f 1) rfl (hC.other (i:=1) (by decide) (by decide) (by decide) (Below.refl _ _)) (⟨fun _=>rfl,fun _=>rfl⟩) d
   ·intro w γ L f hC hLi hLd hLn ⟨d,_⟩;refine au.live rfl ?_;refine bZ γ ?_;exact aj (v:=f 7) rfl (hC.other (i:=2) (by decide) (by decide) (by decide) (Below.refl _ _)) (⟨fun _=>rfl,fun _=>rfl⟩) d
   ·intro w γ L f hC hLi hLd hLn ⟨a,b,_⟩;change _=_ at a b;refine au.live rfl ?_;obtain⟨⟨p0,p1,p2,p3,pl⟩,q0,q1,q2,q3,q4,q5,q6,q7,q8,q9,ql⟩:=hfc.out w hC.bel;refine bZ γ ?_;obtain⟨ev,ec,ef⟩:=evs f;refine aj ?_ (hC.other (i:=3) (by decide) (by decide) (by decide) (Below.refl _ _)) ⟨fun _=>rfl,fun _=>rfl⟩ rfl;go_simp
   ·intro w γ L f hC hLi hLd hLn ⟨a,_⟩;change _=_ at a;refine au.live rfl ?_;obtain⟨⟨p0,p1,p2,p3,pl⟩,q0,q1,q2,q3,q4,q5,q6,q7,q8,q9,ql⟩:=hfc.out w hC.bel;refine bZ γ ?_;obtain⟨ev,ec,ef⟩:=evs f;refine aj ?_ (hC.other (i:=4) (by decide) (by decide) (by decide) (Below.refl _ _)) ⟨fun _=>rfl,fun _=>rfl⟩ rfl;go_simp
   ·intro w γ L f hC hLi hLd hLn ⟨a,b,_⟩;change _=_ at a b;refine au.live rfl ?_
    have l10:L 10=false:=by
     cases q:L 10 with
     |false=>rfl
     |true=>have:=(hC.ord q).2;rw[hLi]at this;cases this
    obtain⟨ev,ec,ef⟩:=evs f
    have hz:=hcall.out w γ.1 hC.bel (fun g hg=>by
     cases q:L 9 with
     |false=>have:=hC.no q;simp only at this;rw[this]at hg;cases hg
     |true=>
      obtain⟨g',a,b,c,-⟩:=hC.made q;simp only at a;rw[a]at hg;cases hg
      exact⟨b,c⟩)
    refine sW (f:=93) (args:= #[.agg #[.string (ay F.nm),.slice F.A1 F.ps.length F.c1,.slice F.A2 F.ls.length F.c2,.slice F.A3 F.n3 F.c3],.agg #[.int .i64 h.k,.string (ay h.x),.string (ay h.y),.pointer pe,.pointer pf,.pointer pc,.slice Aa na ca,.slice At nt ct,.slice Al nl cl,.int .i64 h.at_]]) (w:=w) (by go_simp) hz (fun e w1 ⟨z,he,hB,hk⟩=>⟨(γ.1,some z),_,he,hC.call l10 z hB hk,⟨fun _=>rfl,fun h=>absurd rfl h⟩,by simp,z,rfl,rfl⟩)
   ·intro w γ L f hC hLi hLd hLn ⟨d,_⟩;refine au.live rfl ?_;refine bZ γ ?_;exact aj (v:=f 25) rfl (hC.other (i:=6) (by decide) (by decide) (by decide) (Below.refl _ _)) (⟨fun _=>rfl,fun _=>rfl⟩) d
   ·intro w γ L f hC hLi hLd hLn ⟨d19,_⟩;refine au.live rfl ?_;obtain⟨h5,z,hz,e19⟩:=d19;refine bZ γ ?_;obtain⟨ev,ec,ef⟩:=evs f;refine aj (v:= .agg z.cells) ?_ (hC.other (i:=7) (by decide) (by decide) (by decide) (Below.refl _ _)) ⟨fun _=>rfl,fun _=>rfl⟩ ⟨by simp[h5],z,hz,rfl⟩;go_simp
   ·intro w γ L f hC hLi hLd hLn ⟨d19,_⟩;refine au.live rfl ?_;obtain⟨h5,z,hz,e19⟩:=d19;refine bZ γ ?_;obtain⟨ev,ec,ef⟩:=evs f;refine aj ?_ (hC.other (i:=8) (by decide) (by decide) (by decide) (Below.refl _ _)) ⟨fun _=>rfl,fun _=>rfl⟩ rfl;go_simp
   ·intro w γ L f hC hLi hLd hLn hF;refine au.live rfl ?_;refine bZ (some w.heap.size,γ.2) ?_;obtain⟨ev,ec,ef⟩:=evs f;refine aj (w':=w.alloc (.cells zeroS 63)) (v:= .pointer (some ⟨w.heap.size,0,none⟩)) (by unfold zeroS;go_simp) (hC.alloc hLi) ⟨fun h=>absurd rfl h,fun _=>rfl⟩ ⟨_,rfl,rfl⟩
   ·intro w γ L f hC hLi hLd hLn ⟨d8,d26,_⟩;refine au.live rfl ?_;obtain⟨g,hg,e8⟩:=d8;obtain⟨h5,z,hz,e26⟩:=d26;have hg:γ.1=some g:=hg;have hz:γ.2=some z:=hz;have l9:=hLd 9 (by decide);obtain⟨g',a,b',c',hZ⟩:=hC.made l9;obtain rfl:g=g':=Option.some.inj (hg.symm.trans a);have hZ:=hZ hLi;have c0:=hZ.cell 0;have z0:=hZ.frozen 0;have c1:=hZ.cell 1;have z1:=hZ.frozen 1;have c2:=hZ.cell 2;have z2:=hZ.frozen 2;have c3:=hZ.cell 3;have z3:=hZ.frozen 3;have c4:=hZ.cell 4;have z4:=hZ.frozen 4;have c5:=hZ.cell 5;have z5:=hZ.frozen 5;have c6:=hZ.cell 6;have z6:=hZ.frozen 6;have c7:=hZ.cell 7;have z7:=hZ.frozen 7;have c8:=hZ.cell 8;have z8:=hZ.frozen 8;have c9:=hZ.cell 9;have z9:=hZ.frozen 9;simp[zeroS]at c0 c1 c2 c3 c4 c5 c6 c7 c8 c9;unfold Zs.cells stC at e26;refine bZ γ ?_;obtain⟨ev,ec,ef⟩:=evs f;refine dK (w':=nV w g (.int .i64 z.h.k) (.string (ay z.h.x)) (.string (ay z.h.y)) (.pointer z.pe) (.pointer z.pf) (.pointer z.pc) (.slice z.Aa z.na z.ca) (.slice z.At z.nt z.ct) (.slice z.Al z.nl z.cl) (.int .i64 z.h.at_)) ?_ (hC.stored hLi l9 h5 hg hz) ⟨fun _=>rfl,fun _=>rfl⟩ trivial;unfold nV;go_simp
   ·intro w γ L f hC hLi hLd hLn ⟨d,_⟩;refine au.live rfl ?_;refine bZ γ ?_;exact aj (v:=f 27) rfl (hC.other (i:=11) (by decide) (by decide) (by decide) (Below.refl _ _)) (⟨fun _=>rfl,fun _=>rfl⟩) d
  intro x w' γ hC hV
  obtain⟨gS,hgS,e8⟩:=hV 9 _ rfl rfl;have e9:=hV 11 _ rfl rfl;clear hV hfd;obtain⟨g2,z,hg2,hz,hHo⟩:=hC.st rfl;obtain rfl:gS=g2:=Option.some.inj (hgS.symm.trans hg2);obtain⟨z2,hz2,hOk⟩:=hC.cl rfl;obtain rfl:z=z2:=Option.some.inj (hz.symm.trans hz2);obtain⟨g3,hg3,hg4,hg5,-⟩:=hC.made rfl;obtain rfl:gS=g3:=Option.some.inj (hgS.symm.trans hg3);simp only at hgS;rw[hgS]at hOk;have hbl:=Za hC.bel;replace hHo:=Za hHo;replace hOk:=Za hOk;replace hg4:=Za hg4;clear hC hg2 hg3 hz hz2 hgS;rename World=>w5;obtain⟨v8,hv8⟩:∃y,y=x 9:=⟨_,rfl⟩;obtain⟨v9,hv9⟩:∃y,y=x 11:=⟨_,rfl⟩;simp only[framed];rw[←hv8,←hv9];rw[←hv8]at e8;rw[←hv9]at e9;clear hv8 hv9;subst e8 e9
  cases hs:(aS F.K h).2 with
  |false=>
   obtain⟨⟨p0,p1,p2,p3,pl⟩,-,-,-,-,-,-,-,-,-,q9,ql⟩:=hfc.out w5 hbl.out;have hF2:Hid (R=(.nil,some h.at_)):=Za (by rw[←hRe.out,qQ hs];rfl);have hs':=Za hs;clear hs hcall hfc;go_wp2_with fail;go_quiet (fail);go_wp2_with fail
   go_ret2
   rw[hF2.out];exact⟨_,rfl,aQ.nil_ _ _,(hBW.out.below hbl.out).bl.trans ((below_drewN (Below.refl _ _) _).mono (Nat.le_trans hw01.out (Nat.le_trans hsz.out (Nat.le_trans hszW.out hbl.out.size))))⟩
  |true=>
   obtain⟨zh,zpe,zpf,zpc,zAa,zna,zca,zAt,znt,zct,zAl,znl,zcl⟩:=z;obtain⟨ez,hHd,hTt,hTe⟩:=hOk.out hs;simp only at ez hHd hTt hTe;simp only[Zs.cells,stC]at hHo
   have hdT:(gy F.K h t).dep<l0.dep∧(gy F.K h e).dep<l0.dep:=by
    unfold gy
    cases turned F.K h with
    |true=>exact⟨hdt.out.2.2.2,hdt.out.2.2.2⟩
    |false=>exact⟨hdt.out.1,hdt.out.2.1⟩
   have hR5:=hBW.out.below hbl.out;have hup5:∀x,w5.heap.size≤x→Fre Sx (some gS) x:=fun x hx=>⟨hup.out w5 x (Nat.le_trans hszW.out hbl.out.size) hx,fun e1=>by have:=hHo.out.lt;cases e1;omega⟩;obtain⟨⟨lT,aT⟩,hRT⟩:∃y,y=aO F.K (gy F.K h t):=⟨_,rfl⟩;obtain⟨⟨lE,aE⟩,hRE⟩:∃y,y=aO F.K (gy F.K h e):=⟨_,rfl⟩;have hcT:=hih.out (gy F.K h t) hdT.1 w5 (.slice zAt znt zct) (Fre Sx (some gS)) hR5.ok hTt;have hcE:∀wx,Below w5.heap.size w5 wx→_:=fun wx hx=>hih.out (gy F.K h e) hdT.2 wx (.slice zAl znl zcl) (Fre Sx (some gS)) (hR5.below hx).ok (hTe.below hx);rw[←hRT]at hcT;rw[←hRE]at hcE
   have h2:(aO F.K (gy F.K h t)).2=aT:=by rw[←hRT]
   have h3:(aO F.K (gy F.K h e)).2=aE:=by rw[←hRE]
   have h4:(aO F.K (gy F.K h t)).1=lT:=by rw[←hRT]
   have h5:(aO F.K (gy F.K h e)).1=lE:=by rw[←hRE]
   clear hRT hRE;obtain⟨⟨p0,p1,p2,p3,pl⟩,-⟩:=hfc.out w5 hbl.out;have c7:w5.cell? ⟨gS,7,none⟩=some (.slice zAt znt zct):=hHo.out.cell 7;have hgl:=hHo.out.lt;unfold FnV.cells at hcT hcE;have hs':=Za hs;replace hcE:=Za hcE;replace hup5:=Za hup5;replace hHd:=Za hHd;replace ez:=Za ez;replace h3:=Za h3;replace h4:=Za h4;replace h5:=Za h5;replace hR5:=Za hR5;clear hs hcall hTt hTe hOk hdT
   cases aT with
   |some a=>
    have hF2:Hid (R=(.nil,some a)):=Za (by rw[←hRe.out,wJ hs'.out h2];rfl)
    have hge:(0:Int)≤a:=by omega
    simp only[atI]at hcT;replace hcT:=Za hcT;clear h2;go_wp2_with fail;refine hcT.out.mono ?_;rintro e6 w6 ⟨vT,rfl,-,hb6⟩;have hB6:=Za (hR5.out.below hb6).bl;clear hb6 p0 p1 p2 p3 pl c7;go_wp2_with fail
    go_ret2
    rw[hF2.out];exact⟨_,rfl,aQ.nil_ _ _,hB6.out⟩
   |none=>
    simp only[atI]at hcT;replace hcT:=Za hcT;replace h2:=Za h2;go_wp2_with fail;refine hcT.out.mono ?_;clear hcT;rintro e6 w6 ⟨vT,rfl,hT6,hb6⟩;clear p0 p1 p2 p3 pl c7;have hR6:=hR5.out.below hb6;obtain⟨p0,p1,p2,p3,pl⟩:=hR6.facts;have hcE6:=hcE.out w6 hb6;have hH6:=hHo.out.below hb6 hHo.out.lt;have c8:w6.cell? ⟨gS,8,none⟩=some (.slice zAl znl zcl):=hH6.cell 8;have hgl6:=hH6.lt;replace hT6:=Za hT6;replace hR6:=Za hR6;replace hH6:=Za hH6;replace hb6:=Za hb6;have hB6:=Za hR6.out.bl
    cases aE with
    |some a=>
     have hF2:Hid (R=(.nil,some a)):=Za (by rw[←hRe.out,wK hs'.out h2.out h3.out];rfl)
     have hge:(0:Int)≤a:=by omega
     simp only[atI]at hcE6;replace hcE6:=Za hcE6;clear hcE h3;go_wp2_with fail;refine hcE6.out.mono ?_;rintro e7 w7 ⟨vE,rfl,-,hb7⟩;have hB7:=Za (hR6.out.below hb7).bl;clear hb7 p0 p1 p2 p3 pl c8;go_wp2_with fail
     go_ret2
     rw[hF2.out];exact⟨_,rfl,aQ.nil_ _ _,hB7.out⟩
    |none=>
     simp only[atI]at hcE6;replace hcE6:=Za hcE6;clear hcE;go_wp2_with fail;refine hcE6.out.mono ?_;clear hcE6;rintro e7 w7 ⟨vE,rfl,hE7,hb7⟩;clear p0 p1 p2 p3 pl c8;have hH7:=hH6.out.below hb7 hH6.out.lt;have hb57:=hb6.out.trans (hb7.mono hb6.out.size);have hbW7:=hbl.out.trans (hb57.mono hbl.out.size);have hT7:=(hT6.out.mono (S':=Fre Sx (some gS)) (fun x _ hx=>hx.elim id fun h1=>hup5.out x h1)).below hb7;have hE7':=hE7.mono (S':=Fre Sx (some gS)) (fun x _ hx=>hx.elim id fun h1=>hup5.out x (Nat.le_trans hb6.out.size h1));have hHd7:=hHd.out.below hb57;obtain⟨AT,cT,eT⟩:=aQ.jr hT7;obtain⟨AE,cE,eE⟩:=aQ.jr hE7';rw[eT]at hT7;rw[eE]at hE7';rw[eT,eE];have hW8:Writes [some gS] w7 ((w7.setCell ⟨gS,7,none⟩ (.slice AT lT.len cT)).setCell ⟨gS,8,none⟩ (.slice AE lE.len cE)):=(Writes.store w7 (by simp) _).trans (Writes.store _ (by simp) _);have hH8:=(hH7.store 7 (.slice AT lT.len cT)).store 8 (.slice AE lE.len cE);have hbW8:=hbW7.trans (hW8.below hbW7.size (fun k hk=>by simp at hk;rw[hk];exact hg4.out))
     have hk8:∀x,x<w7.heap.size→Fre Sx (some gS) x→((w7.setCell ⟨gS,7,none⟩ (.slice AT lT.len cT)).setCell ⟨gS,8,none⟩ (.slice AE lE.len cE)).heap[x]? =w7.heap[x]? :=fun x hx hS=>hW8.block x hx (by simp;exact fun e1=>hS.2 (by rw[e1]));have hT8:=hT7.keep hk8;have hE8:=hE7'.keep hk8;have hHd8:=hHd7.keep hk8;have z7:=hH7.frozen 7;have z8:=(hH7.store 7 (.slice AT lT.len cT)).frozen 8;have z8':=hH7.frozen 8;have hgl7:=hH7.lt;have c7:w7.cell? ⟨gS,7,none⟩=some (.slice zAt znt zct):=hH7.cell 7;have c8:w7.cell? ⟨gS,8,none⟩=some (.slice zAl znl zcl):=hH7.cell 8;obtain⟨w8,hw8⟩:∃y,y=(w7.setCell ⟨gS,7,none⟩ (.slice AT lT.len cT)).setCell ⟨gS,8,none⟩ (.slice AE lE.len cE):=⟨_,rfl⟩;rw[←hw8]at hH8 hbW8 hT8 hE8 hHd8;have hR8:=Za (hBW.out.below hbW8);have hO8:=Za (hOW.out.below hbW8);have hs8:=Za (show w1.heap.size≤w8.heap.size from Nat.le_trans hsz.out (Nat.le_trans hszW.out hbW8.size));simp at hH8;replace hT8:=Za hT8;replace hE8:=Za hE8;replace hHd8:=Za hHd8;replace hH8:=Za hH8;replace hw8:=Za hw8;clear hT7 hE7' hE7 hHd7 hW8 hbW8 hk8 hbW7 hb57 hb7 hH7 eT eE;go_upto_region 15 with(fail)
     rw[←hw8.out];clear z7 z8 z8' c7 c8 hgl7 hw8;have c0:w8.cell? ⟨gS,0,none⟩=some (.int .i64 zh.k):=hH8.out.cell 0;have c1:w8.cell? ⟨gS,1,none⟩=some (.string (ay zh.x)):=hH8.out.cell 1;have c2:w8.cell? ⟨gS,2,none⟩=some (.string (ay zh.y)):=hH8.out.cell 2;have c3:w8.cell? ⟨gS,3,none⟩=some (.pointer zpe):=hH8.out.cell 3;have c4:w8.cell? ⟨gS,4,none⟩=some (.pointer zpf):=hH8.out.cell 4;have c5:w8.cell? ⟨gS,5,none⟩=some (.pointer zpc):=hH8.out.cell 5;have c6:w8.cell? ⟨gS,6,none⟩=some (.slice zAa zna zca):=hH8.out.cell 6;have c7:w8.cell? ⟨gS,7,none⟩=some (.slice AT lT.len cT):=hH8.out.cell 7;have c8:w8.cell? ⟨gS,8,none⟩=some (.slice AE lE.len cE):=hH8.out.cell 8;have c9:w8.cell? ⟨gS,9,none⟩=some (.int .i64 zh.at_):=hH8.out.cell 9;have hgl8:=hH8.out.lt;have hbn:=aA w8 (.cells #[.int .i64 zh.k,.string (ay zh.x),.string (ay zh.y),.pointer zpe,.pointer zpf,.pointer zpc,.slice zAa zna zca,.slice AT lT.len cT,.slice AE lE.len cE,.int .i64 zh.at_] 63);have hOn:=Za (hO8.out.below hbn)
     have hnews:Hid (∀(j:Nat) u,([.int .i64 zh.k,.string (ay zh.x),.string (ay zh.y),.pointer zpe,.pointer zpf,.pointer zpc,.slice zAa zna zca,.slice AT lT.len cT,.slice AE lE.len cE,.int .i64 zh.at_]:List Value)[j]? =some u→(w8.alloc (.cells #[.int .i64 zh.k,.string (ay zh.x),.string (ay zh.y),.pointer zpe,.pointer zpf,.pointer zpc,.slice zAa zna zca,.slice AT lT.len cT,.slice AE lE.len cE,.int .i64 zh.at_] 63)).cell? ((⟨w8.heap.size,0,none⟩:Addr).add j)=some u):=Za (fun j u hu=>by
      have hh:=Holds.new w8 63 #[.int .i64 zh.k,.string (ay zh.x),.string (ay zh.y),.pointer zpe,.pointer zpf,.pointer zpc,.slice zAa zna zca,.slice AT lT.len cT,.slice AE lE.len cE,.int .i64 zh.at_]
      have hadd:(⟨w8.heap.size,0,none⟩:Addr).add j=⟨w8.heap.size,j,none⟩:=by unfold Addr.add;split<;>simp_all
      rw[hadd,hh.cell]
      simpa using hu)
     have hone:Hid (∀u∈([.int .i64 zh.k,.string (ay zh.x),.string (ay zh.y),.pointer zpe,.pointer zpf,.pointer zpc,.slice zAa zna zca,.slice AT lT.len cT,.slice AE lE.len cE,.int .i64 zh.at_]:List Value),u.oneCell'=true):=Za (by simp;exact⟨rfl,rfl,rfl,rfl,rfl,rfl,rfl,rfl,rfl,rfl⟩);have FW:Hid (w1.heap.size≤(w8.alloc (.cells #[.int .i64 zh.k,.string (ay zh.x),.string (ay zh.y),.pointer zpe,.pointer zpf,.pointer zpc,.slice zAa zna zca,.slice AT lT.len cT,.slice AE lE.len cE,.int .i64 zh.at_] 63)).heap.size):=Za (Nat.le_trans hs8.out hbn.size);have hRn:=Za (hR8.out.below hbn)
     have hSS:∀x,x<w8.heap.size→Fre Sx (some gS) x→(S x∨w.heap.size≤x)∧some x≠u6.ownBlock:=fun x _ hx=>by have h1:=hx.1;rw[hSx'.out]at h1;exact h1
     have hT9:=Za (hT8.out.mono hSS);have hE9:=Za (hE8.out.mono hSS);have hH9:=Za (hHd8.out.mono hSS);have hO9:=hO8.out.own;rw[hdl.out]at hO9;have hOm:Hid ((w8.alloc (.cells #[.int .i64 zh.k,.string (ay zh.x),.string (ay zh.y),.pointer zpe,.pointer zpf,.pointer zpc,.slice zAa zna zca,.slice AT lT.len cT,.slice AE lE.len cE,.int .i64 zh.at_] 63)).ownsRow w1.heap.size 63 10 u6 k us):=Za (own_below hO9 hbn)
     have hRe2:Hid (r_ (d.snoc zh lT lE) (aO F.K r)=R):=Za (by
      have e1:=tZ (K:=F.K) (h:=h) (t:=t) (e:=e) (r:=r) d hs'.out h2.out h3.out;rw[h4.out,h5.out,←ez.out]at e1;rw[←e1]
      exact hRe.out)
     replace hbn:=Za hbn;clear hO9 hSS hT8 hE8 hHd8 hH8 hOn hR8;go_wp2_with
      (at_builtin
       go_loud (refine wpList_append_own_at _ rfl (.tmp 59) (.tmp 61) 24 rfl w1.heap.size 63 iA _ 10 144 rfl hiA hzA0 hzA1 hzA2 rfl (by omega) u6 k us rfl hOm.out ⟨w8.heap.size,0,none⟩ 1 1 [.int .i64 zh.k,.string (ay zh.x),.string (ay zh.y),.pointer zpe,.pointer zpf,.pointer zpc,.slice zAa zna zca,.slice AT lT.len cT,.slice AE lE.len cE,.int .i64 zh.at_] rfl rfl hnews.out hone.out (by unfold maxLen;omega) (by omega) FW.out ?_)
       go_loud (
        intro v9 w9 ho9 hg9 _ hv9;have hO9:Hid (sO S w.heap.size w1.heap.size (d.snoc zh lT lE) v9 (us++ [.int .i64 zh.k,.string (ay zh.x),.string (ay zh.y),.pointer zpe,.pointer zpf,.pointer zpc,.slice zAa zna zca,.slice AT lT.len cT,.slice AE lE.len cE,.int .i64 zh.at_]) w9):=Za (hO8.out.push (h:=zh) hH9.out hT9.out hE9.out hbn.out hg9 hv9 (by rw[hdl.out];exact ho9));have hB9:=(Writes.bG hg9 (M:= [u6.ownBlock]) (by simp)).below FW.out (fun q hq=>bD hOm.out (List.mem_singleton.1 hq).symm);have hBl:=hRn.out.bl.trans (hB9.mono hw01.out);have hR9:Hid (RfB F gp w w9):=Za ⟨hRn.out.hg.below hB9 hgw.out,hF'.out.below hBl,hBl⟩;have hs9:Hid (w1.heap.size≤w9.heap.size):=Za (Nat.le_trans FW.out hg9.size)
        clear ho9 hg9 hv9 hB9 hBl))
     exact⟨⟨k+1,r,_,us',_,by omega,by simp,hrest',hO9,hRe2,hrl,Za hdt.out.2.2.1,hR9,Za (by rw[Sl.nR,hdl.out]),hs9⟩,by simp[intOf];omega⟩
theorem qY (F:FnV):∀(m:Nat) (l:Sl),l.dep<m→RSt F l
 |0,_,h=>absurd h (Nat.not_lt_zero _)
 |m+1,l,h=>wU F l fun l' h'=>qY F m l' (by omega)
theorem yL (F:FnV) (l:Sl):RSt F l:=qY F (l.dep+1) l (Nat.lt_succ_self _)
def E_ (f:Fnc):Sl×Option Nat→Fnc×Int×Nat
 | (_,some a)=>(Fnc.none,a,61)
 | (b,none)=>(⟨f.nm,f.ps,f.ls,b⟩,0,0)
def AU (f:Fnc):Fnc×Int×Nat:=if kC (fQ (f.ps++f.ls))then(Fnc.none,-1,60)else E_ f (aO (dX (f.ps++f.ls)) f.body)
def lG (f:Fnc) (unit:S):Fnc×Int×Nat:=if f.nm≠unit∨f.nm=h_ then(Fnc.none,-1,62)else AU f
theorem ru (w:World) (f:Fnc) (unit:S) (h:f.nm≠unit∨f.nm=h_) (A1 A2 A3:Option Addr) (n1 n2 n3 c1 c2 c3:Nat):
  Calls Tryz.prog 11 #[.agg (fnC f.nm A1 A2 A3 n1 c1 n2 c2 n3 c3),.string (ay unit)] w (dO (Fnc.none,-1,62) w):=by
 have hb:=((Below.refl w.heap.size w).alloc (Nat.le_refl _) (.cells (fnC f.nm A1 A2 A3 n1 c1 n2 c2 n3 c3) 26)).alloc (by simp) (.cells #[.string ⟨#[]⟩,.slice none 0 0,.slice none 0 0,.slice none 0 0] 26);have hn:=(Holds.new (w.alloc (.cells (fnC f.nm A1 A2 A3 n1 c1 n2 c2 n3 c3) 26)) 26 #[.string ⟨#[]⟩,.slice none 0 0,.slice none 0 0,.slice none 0 0]);rw[show(w.alloc (.cells (fnC f.nm A1 A2 A3 n1 c1 n2 c2 n3 c3) 26)).heap.size=w.heap.size+1 by simp]at hn;have hb':=Za (dO.no w _ (-1) 62 hb);have hn':=Za hn;clear hb hn;unfold fnC at hb' hn'⊢;by_cases h1:f.nm=unit
 ·have h2:f.nm=h_:=by rcases h with h|h;exact absurd h1 h;exact h
  subst h1
  have h3:((ay f.nm).toList== [103,108,111,98,97,108,115])=true:=by rw[h2];simp[h_,aH]
  clear h2 h;go_enter Tryz.func11,Tryz.ntmps11;go_wp2_with fail;exact dM rfl rfl rfl hn'.out Tryz.underlying26 Tryz.sFunc hb'.out
 ·have h3:=qL h1;clear h1 h;go_enter Tryz.func11,Tryz.ntmps11;go_wp2_with fail;exact dM rfl rfl rfl hn'.out Tryz.underlying26 Tryz.sFunc hb'.out
theorem BD {l:List S} {i j:Nat} (hij:i<j) (hj:j<l.length) (h:l[i]'(by omega)=l[j]):kC l=true:=by
 cases hd:kC l with
 |true=>rfl
 |false=>
  have hn:=(iR l).1 hd;exact absurd h (List.pairwise_iff_getElem.1 hn i j (by omega) hj hij)
theorem yS {l:List S} {k:Nat} (hk:k<l.length) (h:(l.take k).Nodup) (h2:∀j (hj:j<k),l[j]'(by omega)≠l[k]):(l.take (k+1)).Nodup:=by
 rw[List.take_succ_eq_append_getElem hk,List.nodup_append];refine⟨h,by simp,?_⟩;intro a ha b hb;simp at hb;subst hb;obtain⟨j,hj,e⟩:=List.getElem_of_mem ha;rw[List.length_take]at hj;rw[List.getElem_take]at e;rw[←e];exact h2 j (by omega)
theorem vO (w:World) (f:Fnc) (hg:f.nm≠h_) (A1 A2 A3:Option Addr) (c1 c2 c3:Nat) (hF:eP w Evr f (.slice A1 f.ps.length c1) (.slice A2 f.ls.length c2) (.slice A3 f.body.len c3)):
  Calls Tryz.prog 11 #[.agg (fnC f.nm A1 A2 A3 f.ps.length c1 f.ls.length c2 f.body.len c3),.string (ay f.nm)] w (dO (AU f) w):=by
 obtain⟨iA,hiA,hzA0,hzA1,hzA2⟩:=info_parts Tryz.clVar;obtain⟨nm,ps,ls,body⟩:=f;simp only at hg hF⊢;obtain⟨hnm,h1,h2,hB⟩:=hF;simp only at hnm h1 h2 hB;obtain⟨R,hR⟩:∃R,R=AU ⟨nm,ps,ls,body⟩:=⟨_,rfl⟩;rw[←hR];have hR':=Za hR
 have hgl:((ay nm).toList== [103,108,111,98,97,108,115])=false:=by rw[aH];simpa[h_]using hg
 clear hR hg
 have hlen1:ps.length≤100000:=by obtain⟨_,_,_,a1,_⟩:=h1;exact a1
 have hlen2:ls.length≤100000:=by obtain⟨_,_,_,a1,_⟩:=h2;exact a1
 have hr1:Hid (bI w Evr A1 (ps.flatMap Vr.cells)):=Za (by obtain⟨_,_,e,_,_,a1,_⟩:=h1;injection e with e;subst e;exact a1);have hr2:Hid (bI w Evr A2 (ls.flatMap Vr.cells)):=Za (by obtain⟨_,_,e,_,_,a1,_⟩:=h2;injection e with e;subst e;exact a1);obtain⟨F,hF0⟩:∃F:FnV,F=⟨nm,ps,ls,A1,A2,A3,c1,c2,body.len,c3⟩:=⟨_,rfl⟩
 have GR:F.ok w:=by rw[hF0];exact⟨h1,h2⟩
 have hFK:Hid (F.K=dX (ps++ls)):=Za (by rw[hF0];rfl);have hcs:=yL F body;unfold RSt at hcs
 have hFc:F.cells= #[.string (ay nm),.slice A1 ps.length c1,.slice A2 ls.length c2,.slice A3 body.len c3]:=by rw[hF0];rfl
 rw[hFc]at hcs;have hl1:Hid ((ps.flatMap Vr.cells).length=ps.length*2):=Za (jO ps);have hl2:Hid ((ls.flatMap Vr.cells).length=ls.length*2):=Za (jO ls);unfold fnC;obtain⟨n1,hn1⟩:∃y,y=ps.length:=⟨_,rfl⟩;obtain⟨n2,hn2⟩:∃y,y=ls.length:=⟨_,rfl⟩;obtain⟨n3,hn3⟩:∃y,y=body.len:=⟨_,rfl⟩;rw[←hn1,←hn2,←hn3]at hcs⊢;rw[←hn1]at h1 hlen1 hl1;rw[←hn2]at h2 hlen2 hl2;rw[←hn3]at hB;obtain⟨w2,hw2⟩:∃x,x=(w.alloc (.cells #[.string (ay nm),.slice A1 n1 c1,.slice A2 n2 c2,.slice A3 n3 c3] 26)).alloc (.cells #[.string ⟨#[]⟩,.slice none 0 0,.slice none 0 0,.slice none 0 0] 26):=⟨_,rfl⟩;obtain⟨gp,hgp⟩:∃x,x=w.heap.size:=⟨_,rfl⟩;obtain⟨gr,hgr⟩:∃x,x=w.heap.size+1:=⟨_,rfl⟩
 have hV:RvW gp gr #[.string (ay nm),.slice A1 n1 c1,.slice A2 n2 c2,.slice A3 n3 c3] w w2:=by
  refine⟨?_,?_,?_,by omega,by omega,by omega⟩
  ·rw[hw2,hgp];exact(Holds.new w _ _).alloc _
  ·rw[hw2,hgr];have:=Holds.new (w.alloc (.cells #[.string (ay nm),.slice A1 n1 c1,.slice A2 n2 c2,.slice A3 n3 c3] 26)) 26 kY
   have e:(w.alloc (.cells #[.string (ay nm),.slice A1 n1 c1,.slice A2 n2 c2,.slice A3 n3 c3] 26)).heap.size=w.heap.size+1:=by simp
   rw[e]at this;exact this
  ·rw[hw2];exact((Below.refl _ _).alloc (Nat.le_refl _) _).alloc (by simp) _
 obtain⟨wW,hwW⟩:∃y,y=w2.drew:=⟨_,rfl⟩
 have hbd:Below w2.heap.size w2 wW:=by rw[hwW];exact(Below.refl _ w2).drew
 have hVW:=Za (hV.below hbd);have hbW:=Za hVW.out.bl
 have hfc:Hid (∀w',Below wW.heap.size wW w'→w'.cell? ⟨gp,1,none⟩=some (.slice A1 n1 c1)∧w'.cell? ⟨gp,2,none⟩=some (.slice A2 n2 c2)∧gp<w'.heap.size):=Za fun w' hb=>by have h:=(hVW.out.below hb).hp;exact⟨h.cell 1,h.cell 2,h.lt⟩
 have hgo:Hid (Below wW.heap.size wW w2.drew):=Za (by rw[←hwW];exact Below.refl _ _);have hln:Hid ((fQ (ps++ls)).length=n1+n2):=Za (by unfold fQ;rw[List.length_map,List.length_append,hn1,hn2]);have h1':=Za h1;have h2':=Za h2;have hB':=Za hB;have hn1':=Za hn1;have hn2':=Za hn2;have hn3':=Za hn3;have hfo:=Za hw2.symm;have jR:=Za hgp.symm;have zk:=Za hgr.symm;have hnm':=Za hnm;have GN:=Za GR;have hcs':=Za hcs;clear hw2 hgp hgr h1 h2 hB hn1 hn2 hn3 hnm hV hwW hbd GR hcs hF0 hFc;go_enter Tryz.func11,Tryz.ntmps11;go_wp2_with fail;rw[hfo.out,jR.out];rw[show gp+1=gr from by rw[←jR.out];exact zk.out];clear hfo
 refine aC ((eqv (.pointer (some ⟨gp,1,none⟩)))::(eqv (.slice A1 n1 c1))::(fun L w v=>L 5=false→w.ownsRow wW.heap.size 79 2 v n1 (ps.flatMap Vr.cells))::(eqv (.pointer (some ⟨gp,2,none⟩)))::(eqv (.slice A2 n2 c2))::(fun L w v=>L 2=true∧L 5=true∧w.ownsRow wW.heap.size 79 2 v (n1+n2) ((ps++ls).flatMap Vr.cells))::(fun L w v=>L 2=true∧L 5=true∧w.ownsRow wW.heap.size 79 2 v (n1+n2) ((ps++ls).flatMap Vr.cells))::[])
  ((rn1 2)::(rd1 22 0)::(rd1 23 1)::(rn1 2)::(rd1 25 3)::⟨[(24,some 2),(26,some 4)],0,[]⟩::(rd1 27 5)::[])
  (no::no::no::no::no::no::no::so 6::no::no::no::no::no::no::no::no::no::no::no::no::no::no::so 0::so 1::so 2::so 3::so 4::so 5::[])
  (fun _ w'=>Below wW.heap.size wW w') (fun i w w'=>i≠2→i≠5→w'=w) ?mixK3 ?okK3 ?tabK3 ?frK3 ?inK3 ?keptK3 ?startK3 ?eachK3 ?finK3
 case mixK3|okK3|tabK3|frK3=>kernel_rfl
 case inK3=>rfl
 case keptK3=>exact⟨fun _ _ _ _ _ _ _ _ _ _ _ h=>h,fun _ _ _ _ _ _ _ _ _ _ _ h=>h,fun i hne hr L w w' v hLi hC hC' hG h h1=>by
    have h5:i≠5:=fun e=>by subst e;simp at h1
    have n5:(5==i)=false:=by simpa using fun e=>h5 e.symm
    have a1:L 5=false:=by simpa[n5]using h1
    rw[hG (fun e=>hne e) h5]
    exact h a1,fun _ _ _ _ _ _ _ _ _ _ _ h=>h,fun _ _ _ _ _ _ _ _ _ _ _ h=>h,fun i hne hr L w w' v hLi hC hC' hG h=>by
    have h2:i≠2:=fun e=>by subst e;rw[h.1]at hLi;cases hLi
    have h5:i≠5:=fun e=>by subst e;rw[h.2.1]at hLi;cases hLi
    rw[hG h2 h5]
    exact⟨by simp[h.1],by simp[h.2.1],h.2.2⟩,fun i hne hr L w w' v hLi hC hC' hG h=>by
    have h2:i≠2:=fun e=>by subst e;rw[h.1]at hLi;cases hLi
    have h5:i≠5:=fun e=>by subst e;rw[h.2.1]at hLi;cases hLi
    rw[hG h2 h5]
    exact⟨by simp[h.1],by simp[h.2.1],h.2.2⟩,trivial⟩
 case startK3=>exact hgo.out
 case eachK3=>
  refine⟨?_,?_,?_,?_,?_,?_,?_,trivial⟩
  iterate 2 (intro w L f hC hLi hLd hLn ⟨a,_⟩;change _=_ at a;refine au.live rfl ?_;have qq:=hfc.out w hC;obtain⟨q1,q2,ql⟩:=qq;obtain⟨ev,ec,ef⟩:=evs f;refine aj ?_ hC (fun _ _=>rfl) rfl;go_simp)
  ·intro w L f hC hLi hLd hLn ⟨d23,_⟩;change _=_ at d23;refine au.live rfl ?_;obtain⟨ev,ec,ef⟩:=evs f;refine dY w (.const (.slice none 0 0)) (.tmp 23) 23 rfl wW.heap.size 79 iA _ 2 24 Tryz.underlying23 hiA hzA0 hzA1 hzA2 rfl (by omega) (.slice none 0 0) 0 [] (by rw[ec]) (World.ownsRow_nil _ _ _ _) A1 n1 c1 (ps.flatMap Vr.cells) (by rw[ev,d23]) hl1.out (hr1.out.up (hbW.out.trans (hC.mono hbW.out.size))) (lu ps) (by unfold maxLen;omega) (by omega) hC.size ?_;intro v' w' ho hg;have hb:Below w.heap.size w w':=⟨hg.os,hg.tape,hg.output,hg.size,fun k hk=>hg.block k hk (by simp[Value.ownBlock])⟩;exact⟨hC.trans (hb.mono hC.size),fun h=>absurd rfl h,fun _=>by simpa using ho⟩
  iterate 2 (intro w L f hC hLi hLd hLn ⟨a,_⟩;change _=_ at a;refine au.live rfl ?_;have qq:=hfc.out w hC;obtain⟨q1,q2,ql⟩:=qq;obtain⟨ev,ec,ef⟩:=evs f;refine aj ?_ hC (fun _ _=>rfl) rfl;go_simp)
  ·intro w L f hC hLi hLd hLn ⟨d24,d26,_⟩;change _=_ at d26;refine au.live rfl ?_;have l2:L 2=true:=hLd 2 (by decide);have ho1:=d24 hLi;obtain⟨ev,ec,ef⟩:=evs f;refine dY w (.tmp 24) (.tmp 26) 23 rfl wW.heap.size 79 iA _ 2 24 Tryz.underlying23 hiA hzA0 hzA1 hzA2 rfl (by omega) (f 24) n1 (ps.flatMap Vr.cells) (by rw[ev]) ho1 A2 n2 c2 (ls.flatMap Vr.cells) (by rw[ev,d26]) hl2.out (hr2.out.up (hbW.out.trans (hC.mono hbW.out.size))) (lu ls) (by unfold maxLen;omega) (by omega) hC.size ?_;intro v' w' ho hg;exact⟨hC.grown hg hC.size (fun g hg=>(ho1.lt g hg).1),fun _ h=>absurd rfl h,by simp[l2],by simp,by rw[List.flatMap_append];exact ho⟩
  ·intro w L f hC hLi hLd hLn ⟨d,_⟩;refine au.live rfl ?_;exact aj (v:=f 27) rfl (hC) (fun _ _=>rfl) d
 intro x w' hC hV
 obtain⟨-,-,ho⟩:=hV 6 _ rfl rfl;clear hV;obtain⟨vv,hvv⟩:∃v,v=x 6:=⟨_,rfl⟩;rw[←hvv]at ho;simp only[framed];rw[←hvv];clear hvv;rename World=>w3;have hV3:=Za (hVW.out.below hC);clear hC;obtain⟨N,hN⟩:∃y,y=n1+n2:=⟨_,rfl⟩;rw[←hN]at ho hln;obtain⟨vA,vc,rfl,hrow,hvc⟩:=bI.own (S:=Evr) ho (fun _ _=>trivial)
 have hN6:N≤200000:=by omega
 have hrow3:=Za hrow;clear ho hrow hN;obtain⟨nl,hnl⟩:∃y,y=fQ (ps++ls):=⟨_,rfl⟩;rw[←hnl]at hln
 have hrows:Hid (∀(wx:World),Below w3.heap.size w3 wx→∀i (hi:i<nl.length),∃b off,vA=some ⟨b,off,none⟩∧wx.cell? ⟨b,off+i*2,none⟩=some (.string (ay nl[i]))∧b<wx.heap.size):=Za fun wx hx i hi=>by
  subst hnl
  have hi2:i<(ps++ls).length:=by unfold fQ at hi;rw[List.length_map]at hi;exact hi
  obtain⟨b,off,e,q0,-⟩:=nN (hrow3.out.up hx) hi2;refine⟨b,off,e,?_,lt_of_cell q0⟩;rw[q0];simp only[fQ,List.getElem_map]
 have Gs:=Za hnl;clear hnl hrow3;go_wp2_with fail;go_loopw [8] (fun i wl=>∃k:Nat,k≤N∧i= .int .i64 k∧Hid ((nl.take k).Nodup)∧Hid (Below w3.heap.size w3 wl)) (fun i _=>N-(intOf i).toNat)
 case atStart=>exact⟨0,by omega,rfl,Za (by simp),Za (Below.refl _ _)⟩
 obtain⟨k,hk,rfl,hnd,hBl⟩:=hrel;rename World=>wl;by_cases hlt:k<N
 ·have hkl:k<nl.length:=by rw[hln.out];exact hlt
  go_wp2_with fail;go_loopw [9] (fun i wm=>∃j:Nat,j≤k∧i= .int .i64 j∧Hid (∀q (hq:q<j) (hq2:q<nl.length),nl[q]≠nl[k])∧Hid (Below w3.heap.size w3 wm)) (fun i _=>k-(intOf i).toNat)
  case atStart=>exact⟨0,by omega,rfl,Za (fun q hq=>absurd hq (Nat.not_lt_zero _)),hBl⟩
  obtain⟨j,hj,rfl,hne,hBm⟩:=hrel;rename World=>wm;by_cases hm:j<k
  ·have hjl:j<nl.length:=by omega
   obtain⟨b,off,rfl,q1,ql⟩:=hrows.out wm hBm.out j hjl;obtain⟨b2,off2,e2,q2,-⟩:=hrows.out wm hBm.out k hkl;injection e2 with e2;injection e2 with e2 e3;subst e2 e3;by_cases hxy:nl[j]=nl[k]
   ·have hxe:((ay nl[j]).toList==(ay nl[k]).toList)=true:=by rw[hxy];simp
    have hRR:Hid (R=(Fnc.none,-1,60)):=Za (by
     rw[hR'.out];unfold AU;rw[if_pos];rw[←Gs.out]
     exact BD hm hkl hxy)
    obtain⟨x1,hx1⟩:∃y,y=nl[j]:=⟨_,rfl⟩;obtain⟨x2,hx2⟩:∃y,y=nl[k]:=⟨_,rfl⟩;rw[←hx1]at q1;rw[←hx2]at q2;rw[←hx1,←hx2]at hxe;clear hxy hne hx1 hx2;go_wp2_with fail;go_quiet (fail);obtain⟨w5,hw5⟩:∃y,y=wm.drewN nq:=⟨_,rfl⟩
    have hB5:Below w3.heap.size w3 w5:=by rw[hw5];exact below_drewN hBm.out _
    rw[←hw5];have hV5:=Za (hV3.out.below hB5);obtain⟨r0,r1,r2,r3,rl,rf⟩:=hV5.out.pU;replace rf:=Za rf;have f0:=rf.out 0;have f1:=rf.out 1;have f2:=rf.out 2;have f3:=rf.out 3;clear hw5 hB5 q1 q2 ql;go_wp2_with fail;refine dM rfl rfl rfl (hV5.out.hr.vP _ _ _ _) Tryz.underlying26 Tryz.sFunc ?_;rw[hRR.out];exact dO.no w _ (-1) 60 (hV5.out.bl.trans ((dU w5 gr _ _ _ _).below hV5.out.bl.size fun j hj=>by have:=hV5.out.r0;simp at hj;omega))
   ·have hxe:=qL hxy
    have hne2:Hid (∀q (hq:q<j+1) (hq2:q<nl.length),nl[q]≠nl[k]):=Za (fun q hq hq2=>by
     rcases Nat.lt_succ_iff_lt_or_eq.1 hq with h|h
     ·exact hne.out q h hq2
     ·subst h
      exact hxy)
    obtain⟨x1,hx1⟩:∃y,y=nl[j]:=⟨_,rfl⟩;obtain⟨x2,hx2⟩:∃y,y=nl[k]:=⟨_,rfl⟩;rw[←hx1]at q1;rw[←hx2]at q2;rw[←hx1,←hx2]at hxe;clear hxy hne hx1 hx2;go_wp2_with fail;go_quiet (fail);obtain⟨w5,hw5⟩:∃y,y=wm.drewN nq:=⟨_,rfl⟩;have hB5:=Za (show Below w3.heap.size w3 w5 by rw[hw5];exact below_drewN hBm.out _);rw[←hw5];clear hw5 q1 q2 ql;go_wp2_with fail;exact⟨⟨j+1,by omega,by simp,hne2,hB5⟩,by simp[intOf];omega⟩
  ·obtain rfl:j=k:=by omega
   have hnd2:Hid ((nl.take (j+1)).Nodup):=Za (yS hkl hnd.out (fun q hq=>hne.out q hq (by omega)));clear hne hnd;go_wp2_with fail;exact⟨⟨j+1,by omega,by simp,hnd2,hBm⟩,by simp[intOf];omega⟩
 ·obtain rfl:k=N:=by omega
  have hRR:Hid (R=E_ ⟨nm,ps,ls,body⟩ (aO F.K body)):=Za (by
   rw[hR'.out,hFK.out];unfold AU;rw[if_neg];simp only;rw[←Gs.out];have:=hnd.out;rw[←hln.out,List.take_length]at this;rw[(iR nl).2 this]
   simp)
  have hV4:=hV3.out.below hBl.out;have hcw:=hcs'.out wl (.slice A3 n3 c3) (fun x=>x<w.heap.size) (GN.out.below hV4.bl) ((hB'.out.mono (S':=fun x=>x<w.heap.size) fun x hx _=>hx).keep fun x hx _=>hV4.bl.block x hx);obtain⟨⟨lb,ab⟩,hst⟩:∃y,y=aO F.K body:=⟨_,rfl⟩;rw[←hst]at hcw;have hRS:Hid (R=E_ ⟨nm,ps,ls,body⟩ (lb,ab)):=Za (by rw[hRR.out,hst]);obtain⟨q0,q1,q2,q3,ql,qf⟩:=hV4.facts;replace hV4:=Za hV4;clear qf hRR hst hcs' hnd
  cases ab with
  |some a=>
   have hR9:Hid (R=(Fnc.none,(a:Int),61)):=hRS
   have hge:(0:Int)≤a:=by omega
   simp only[atI]at hcw;replace hcw:=Za hcw;clear hRS;go_wp2_with fail;refine hcw.out.mono ?_;rintro e w9 ⟨v',rfl,-,hb9⟩;have hV9:=Za (hV4.out.below hb9);obtain⟨r0,r1,r2,r3,rl,rf⟩:=hV9.out.pU;replace rf:=Za rf;have f0:=rf.out 0;have f1:=rf.out 1;have f2:=rf.out 2;have f3:=rf.out 3;clear hb9 q0 q1 q2 q3 ql;go_wp2_with fail;refine dM rfl rfl rfl (hV9.out.hr.vP _ _ _ _) Tryz.underlying26 Tryz.sFunc ?_;rw[hR9.out];exact dO.no w _ a 61 (hV9.out.bl.trans ((dU w9 gr _ _ _ _).below hV9.out.bl.size fun j hj=>by have:=hV9.out.r0;simp at hj;omega))
  |none=>
   have hR9:Hid (R=(⟨nm,ps,ls,lb⟩,0,0)):=hRS;simp only[atI]at hcw;replace hcw:=Za hcw;clear hRS;go_wp2_with fail;refine hcw.out.mono ?_;clear hcw;rintro e we ⟨v',rfl,hSe,hbe⟩;have hVe:=hV4.out.below hbe;have hgpd:=hV4.out.hp.lt;have hgrd:=hV4.out.hr.lt;have hp0:=hV4.out.p0;have hr0:=hV4.out.r0;obtain⟨A6,c6,hv6⟩:=hSe.jr;obtain⟨n6,hn6⟩:∃y,y=lb.len:=⟨_,rfl⟩;rw[←hn6]at hv6;rw[hv6]at hSe;rw[hv6];clear hv6;have hn6':=Za hn6;obtain⟨wf,hwf⟩:∃x,x=we.setCell ⟨gp,3,none⟩ (.slice A6 n6 c6):=⟨_,rfl⟩
   have hWf:Writes [some gp] we wf:=by rw[hwf];exact Writes.store we (by simp) _
   have hSf:aQ wf (fun x=>x≠gr) lb (.slice A6 n6 c6):=by
    have h1:=hSe.keep fun x hx hS=>hWf.block x hx (by simp;rcases hS with hS|hS<;>omega)
    exact h1.mono fun x _ hS=>by rcases hS with hS|hS<;>omega
   clear q0 q1 q2 q3 ql;obtain⟨q0,q1,q2,q3,ql,qf⟩:=hVe.facts;replace qf:=Za qf;have qf3:=qf.out 3
   have hVf:RvW gp gr #[.string (ay nm),.slice A1 n1 c1,.slice A2 n2 c2,.slice A6 n6 c6] w wf:=by have:=hVe.put 3 (.slice A6 n6 c6);rw[←hwf]at this;exact this
   have hZ:=dU wf gr (.string (ay nm)) (.slice A1 n1 c1) (.slice A2 n2 c2) (.slice A6 n6 c6);have hHz:=Za (hVf.hr.vP (.string (ay nm)) (.slice A1 n1 c1) (.slice A2 n2 c2) (.slice A6 n6 c6));have hBz:=hVf.bl.trans (hZ.below hVf.bl.size fun j hj=>by simp at hj;omega)
   have hend:Hid (dO R w (.returned (.tuple #[.agg #[.string (ay nm),.slice A1 n1 c1,.slice A2 n2 c2,.slice A6 n6 c6],.int .i64 0,.int .i64 0])) ((((wf.setCell ⟨gr,0,none⟩ (.string (ay nm))).setCell ⟨gr,1,none⟩ (.slice A1 n1 c1)).setCell ⟨gr,2,none⟩ (.slice A2 n2 c2)).setCell ⟨gr,3,none⟩ (.slice A6 n6 c6))):=Za (by
    rw[hR9.out];refine⟨_,_,_,rfl,⟨hnm'.out,h1'.out.keep fun x hx _=>hBz.block x hx,h2'.out.keep fun x hx _=>hBz.block x hx,?_⟩,hBz⟩
    exact(hSf.keep fun x hx hS=>hZ.block x hx (by simp;exact hS)).mono fun _ _ _=>trivial)
   have hff:=Za hwf.symm;obtain⟨p0,p1,p2,p3,pl,pf⟩:=hVf.facts;obtain⟨r0,r1,r2,r3,rl,rf⟩:=hVf.pU;replace rf:=Za rf;have f0:=rf.out 0;have f1:=rf.out 1;have f2:=rf.out 2;have f3:=rf.out 3;clear pf hwf hWf hSf hVf hZ hBz hSe hbe hVe hn6;go_upto_region 16 with(fail);rw[hff.out];clear q0 q1 q2 q3 ql qf qf3;go_wp2_with fail;exact dM rfl rfl rfl hHz.out Tryz.underlying26 Tryz.sFunc hend.out
theorem sV (w:World) (f:Fnc) (unit:S) (A1 A2 A3:Option Addr) (c1 c2 c3:Nat) (hF:eP w Evr f (.slice A1 f.ps.length c1) (.slice A2 f.ls.length c2) (.slice A3 f.body.len c3)):
  Calls Tryz.prog 11 #[.agg (fnC f.nm A1 A2 A3 f.ps.length c1 f.ls.length c2 f.body.len c3),.string (ay unit)] w (dO (lG f unit) w):=by
 by_cases h:f.nm≠unit∨f.nm=h_
 ·have:=ru w f unit h A1 A2 A3 f.ps.length f.ls.length f.body.len c1 c2 c3;unfold lG;rw[if_pos h];exact this
 ·have h1:f.nm=unit:=Classical.byContradiction fun e=>h (.inl e);subst h1;unfold lG;rw[if_neg h];exact vO w f (fun e=>h (.inr e)) A1 A2 A3 c1 c2 c3 hF
end Go.Proofs.YtpndglghpojjkaaGreat
namespace Go.Proofs.YtpndglghpojjkaaGreat
open Go.RowKit
def CS (n m:Nat) (w0:World) (F:World→Prop) (L:Nat→Bool) (w:World):Prop:=(L n=false→Below w0.heap.size w0 w)∧(L n=true→L m=true∧F w)
section
variable {n m i:Nat} {w0 w w':World} {F:World→Prop} {L:Nat→Bool}
theorem CS.bel (h:CS n m w0 F L w) (hn:L n=false):Below w0.heap.size w0 w:=h.1 hn
theorem CS.go0 (hn:L n=false) (hi:n≠i) (hb:Below w0.heap.size w0 w'):CS n m w0 F (fun k=>k==i||L k) w':=
 ⟨fun _=>hb,fun e=>by simp[hi,hn]at e⟩
theorem CS.go (h:CS n m w0 F L w) (hn:L n=false) (hi:n≠i) (hb:Below w.heap.size w w'):CS n m w0 F (fun k=>k==i||L k) w':=CS.go0 hn hi ((h.1 hn).trans (hb.mono (h.1 hn).size))
theorem CS.last (hm:L m=true) (hF:F w'):CS n m w0 F (fun k=>k==n||L k) w':=⟨fun e=>by simp at e,fun _=>⟨by simp[hm],hF⟩⟩
theorem Till.DU {R:World→Value→Prop} {v:Value} (h:Till n R L w v) (hne:i≠m) (hG:i≠m→i≠n→Below w.heap.size w w') (hk:Below w.heap.size w w'→R w v→R w' v):Till n R (fun k=>k==i||L k) w' v:=fun e=>by
 simp only[Bool.or_eq_false_iff,beq_eq_false_iff_ne]at e;exact hk (hG hne (fun h=>e.1 h.symm)) (h e.2)
end
end Go.Proofs.YtpndglghpojjkaaGreat
