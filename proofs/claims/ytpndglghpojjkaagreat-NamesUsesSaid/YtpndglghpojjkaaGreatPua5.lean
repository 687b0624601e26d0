/-
  8 texts of the proof, in one file: no condition.
-/
import Derived.OwnWalk
import Derived.Lib.SliceRun
import Derived.Test.YtpndglghpojjkaaGreatPua4
set_option maxRecDepth 1000000
set_option maxHeartbeats 8000000
namespace Go.Proofs.YtpndglghpojjkaaGreat
open Go.RowKit Go.Deep
theorem aW.at_ {w:World} {S:Nat→Prop}:∀{l:List Ag} {vs:List Value},aW w S l vs→∀{k:Nat} (hk:k<l.length),∃ve,vs[k*3]? =some (.bool l[k].ptr)∧vs[k*3+1]? =some (.string (ay l[k].nm))∧vs[k*3+2]? =some ve∧aJ w S l[k].e ve∧l[k].nm.length≤4096
 | [],_,_,k,hk=>absurd hk (by simp)
 |a::l,vs,h,k,hk=>by
  obtain⟨ve,vs',rfl,hn,h1,h2⟩:=h
  cases k with
  |zero=>exact⟨ve,rfl,rfl,rfl,h1,hn⟩
  |succ k=>
   obtain⟨ve',a1,a2,a3,a4,a5⟩:=aW.at_ h2 (k:=k) (by simpa using hk)
   have e:(k+1)*3=k*3+3:=by omega
   refine⟨ve',?_,?_,?_,a4,a5⟩
   ·rw[e];simpa using a1
   ·rw[e];simpa using a2
   ·rw[e];simpa using a3
theorem aZ.at_ {w:World} {l:List Ag} {A:Option Addr} {c:Nat} (h:aZ w Evr l (.slice A l.length c)) {k:Nat} (hk:k<l.length):
  ∃b off ve,A=some ⟨b,off,none⟩∧b<w.heap.size∧w.cell? ⟨b,off+k*3,none⟩=some (.bool l[k].ptr)∧w.cell? ⟨b,off+k*3+1,none⟩=some (.string (ay l[k].nm))∧w.cell? ⟨b,off+k*3+2,none⟩=some ve∧aJ w Evr l[k].e ve∧l[k].nm.length≤4096:=by
 obtain⟨A',c',vs,e,-,-,hr,hc⟩:=h;injection e with e1 e2 e3;subst e1;obtain⟨ve,a1,a2,a3,a4,a5⟩:=hc.at_ hk
 have hne:vs≠[]:=fun e=>by rw[e]at a1;cases a1
 obtain⟨b,off,e,-,hcell⟩:=hr hne;exact⟨b,off,ve,e,hr.lt hne e,by have:=hcell _ _ a1;simpa using this,by have:=hcell _ _ a2;rw[Nat.add_assoc];exact this,by have:=hcell _ _ a3;rw[Nat.add_assoc];exact this,a4,a5⟩
theorem bI.fresh (w:World) (t:TypeId) (vs:List Value):bI (w.alloc (.cells vs.toArray t)) Evr (some ⟨w.heap.size,0,none⟩) vs:=fun hne=>by
 obtain⟨b,off,e,-,hc⟩:=Row.fresh w t vs hne;exact⟨b,off,e,trivial,hc⟩
theorem kM.one {w:World} (t:TypeId) {e:Ex} {v:Value} (h:aJ w Evr e v):kM (w.alloc (.cells #[v] t)) [e] (some ⟨w.heap.size,0,none⟩):=
 ⟨[v],rfl,bI.fresh w t [v],fun i hi=>by
  match i,hi with
  |0,_=>exact⟨v,rfl,h.below (aA w _)⟩⟩
theorem kM.two {w:World} (t:TypeId) {e f:Ex} {v u:Value} (h:aJ w Evr e v) (h2:aJ w Evr f u):kM (w.alloc (.cells #[v,u] t)) [e,f] (some ⟨w.heap.size,0,none⟩):=
 ⟨[v,u],rfl,bI.fresh w t [v,u],fun i hi=>by
  match i,hi with
  |0,_=>exact⟨v,rfl,h.below (aA w _)⟩
  |1,_=>exact⟨u,rfl,h2.below (aA w _)⟩⟩
structure Rsv (m:Nat) (K:List UInt8→Nat) (r:Nat) (w0 w:World):Prop where
 km:eX w m K
 hr:Holds w r 86 #[.map (some m)]
 bl:Below w0.heap.size w0 w
theorem Rsv.below {m r:Nat} {K:List UInt8→Nat} {w0 w w':World} (h:Rsv m K r w0 w) (hb:Below w.heap.size w w'):Rsv m K r w0 w':=
 ⟨h.km.below hb,h.hr.below hb h.hr.lt,h.bl.trans (hb.mono h.bl.size)⟩
theorem Rsv.facts {m r:Nat} {K:List UInt8→Nat} {w0 w:World} (h:Rsv m K r w0 w):w.cell? ⟨r,0,none⟩=some (.map (some m))∧r<w.heap.size:=⟨h.hr.cell 0,h.hr.lt⟩
theorem Rsv.start {w:World} {m:Nat} {K:List UInt8→Nat} (h:eX w m K):Rsv m K w.heap.size w (w.alloc (.cells #[.map (some m)] 86)):=
 ⟨h.below (aA w _),Holds.new w _ _,aA w _⟩
theorem uh (w:World) (m:Nat) (K:List UInt8→Nat) (h:eX w m K) (l:List Ag) (v:Value) (hA:aZ w Evr l v):
  Calls Tryz.prog 89 #[.agg #[.map (some m)],v] w fun e w'=>e= .returned (.bool (l.all (jE K)))∧Below w.heap.size w w':=by
 have hS:=Rsv.start h;obtain⟨w1,hw1⟩:∃y,y=w.alloc (.cells #[.map (some m)] 86):=⟨_,rfl⟩;rw[←hw1]at hS;obtain⟨r,hr⟩:∃y,y=w.heap.size:=⟨_,rfl⟩;have hfold:Hid (w.alloc (.cells #[.map (some m)] 86)=w1):=Za hw1.symm;have hrB:Hid (w.heap.size=r):=Za hr.symm;rw[←hr]at hS;have hS':=Za hS
 obtain⟨A,c,e,hlen,hlc⟩:∃A c,v= .slice A l.length c∧l.length≤100000∧l.length≤c:=by obtain⟨A,c,vs,e,h1,h2,-,-⟩:=hA;exact⟨A,c,e,h1,h2⟩
 subst e;have hA':=Za hA;obtain⟨n,hn'⟩:∃y,y=l.length:=⟨_,rfl⟩;rw[←hn']at hlen hlc⊢;have hn2:=Za hn';clear hw1 hr hS hA hn' h;go_enter Tryz.func89,Tryz.ntmps89;go_upto_region 1 with(fail);rw[hrB.out,hfold.out];clear hfold;go_wp2_with fail;go_loopw [11] (fun i wl=>∃k:Nat,k≤n∧i= .int .i64 k∧Hid ((l.take k).all (jE K)=true)∧Hid (Rsv m K r w wl)) (fun i _=>n-(intOf i).toNat)
 case atStart=>exact⟨0,by omega,rfl,Za rfl,hS'⟩
 clear hS';obtain⟨k,hk,rfl,hT,hS⟩:=hrel;rename World=>wl;by_cases hkn:k<n
 ·have hkl:k<l.length:=by rw[←hn2.out];exact hkn
  have hA2:=hA'.out;obtain⟨b,off,ve,e,hb,c0,c1,c2,hx,hnm⟩:=aZ.at_ hA2 hkl;subst e;have q0:=(hS.out.bl.cell (p:=⟨b,off+k*3,none⟩) hb).trans c0;have q1:=(hS.out.bl.cell (p:=⟨b,off+k*3+1,none⟩) hb).trans c1;have q2:=(hS.out.bl.cell (p:=⟨b,off+k*3+2,none⟩) hb).trans c2;have hst:Hid ((l.take (k+1)).all (jE K)=jE K l[k]):=Za (by rw[List.take_add_one,List.getElem?_eq_getElem hkl,Option.toList_some,List.all_append,hT.out,List.all_cons,List.all_nil,Bool.and_true,Bool.true_and])
  have hno:Hid (jE K l[k]=false→l.all (jE K)=false):=Za (fun h=>by
   rw[Bool.eq_false_iff];intro hall;have:=List.all_eq_true.1 hall _ (List.getElem_mem hkl);rw[h]at this
   cases this)
  have hx2:=Za (hx.below hS.out.bl);obtain⟨p,rfl⟩:=hx.vp;clear hb c0 c1 c2 hx hA2
  generalize l[k]=a at*
  obtain⟨ap,an,ae⟩:=a;simp only at q0 q1 hx2 hnm;obtain⟨wn,hwn⟩:∃y,y=wl.alloc (.cells #[.bool ap,.string (ay an),.pointer p] 168):=⟨_,rfl⟩;obtain⟨ga,hga⟩:∃y,y=wl.heap.size:=⟨_,rfl⟩
  have hbn:Below wl.heap.size wl wn:=by rw[hwn];exact aA wl _
  have hHa:Holds wn ga 168 #[.bool ap,.string (ay an),.pointer p]:=by rw[hwn,hga];exact Holds.new wl _ _
  have hSn:=hS.out.below hbn;have hxn:=Za (hx2.out.below hbn);have hfo:Hid (wl.alloc (.cells #[.bool ap,.string (ay an),.pointer p] 168)=wn):=Za hwn.symm;have xJ:=Za hga.symm;clear hwn hbn hga hS hx2 hT;go_upto_region 4 with(fail);rw[xJ.out,hfo.out];clear hfo xJ;clear q0 q1 q2;have q0:=hHa.cell 0;have q1:=hHa.cell 1;have q2:=hHa.cell 2;have ql:=hHa.lt;have qz:=hHa.frozen;simp at q0 q1 q2;obtain⟨qr,qrl⟩:=hSn.facts;have tH:=Za hHa;have tC:=Za hSn;clear hHa hSn qz
  cases ap with
  |true=>
   go_wp2_with fail;refine(bM wn m K tC.out.km an hnm).mono ?_;rintro e w3 ⟨rfl,hb3⟩;have hS3:=Za (tC.out.below hb3);clear hb3 tC tH q0 q1 q2 ql qr qrl
   cases hp:(K an==2)with
   |true=>
    have hgo:Hid ((l.take (k+1)).all (jE K)=true):=Za (by rw[hst.out];unfold jE;simp[hp]);clear hp;go_wp2_with fail;exact⟨⟨k+1,by omega,by simp,hgo,hS3⟩,by simp[intOf];omega⟩
   |false=>
    have hgo:Hid (l.all (jE K)=false):=Za (hno.out (by unfold jE;simp[hp]));clear hp;go_wp2_with fail;go_ret;exact⟨by rw[hgo.out];rfl,hS3.out.bl⟩
  |false=>
   go_wp2_with fail;refine(kU wn m K tC.out.km ae _ hxn.out).mono ?_;rintro e w3 ⟨rfl,hb3⟩;have hHa3:=tH.out.below hb3 tH.out.lt;clear q0 q1 q2 ql qr qrl;have q2:=hHa3.cell 2;simp at q2;have ql:=hHa3.lt;have hS3:=tC.out.below hb3;obtain⟨qr,qrl⟩:=hS3.facts;have hS3':=Za hS3;have hx3:=Za (hxn.out.below hb3);clear hb3 hHa3 hS3 tH tC hxn
   cases hp:dN K ae with
   |true=>
    have hgo:Hid ((l.take (k+1)).all (jE K)=true):=Za (by rw[hst.out];unfold jE;simp[hp]);clear hp;go_wp2_with fail;exact⟨⟨k+1,by omega,by simp,hgo,hS3'⟩,by simp[intOf];omega⟩
   |false=>
    have hap:Hid (jE K ⟨false,an,ae⟩=bQ K ae):=Za (by unfold jE;simp[hp]);clear hp;have hES:=kM.one 59 hx3.out;obtain⟨w4,hw4⟩:∃y,y=w3.alloc (.cells #[.pointer p] 59):=⟨_,rfl⟩;rw[←hw4]at hES;have hS4:=Za (hS3'.out.below (by rw[hw4];exact aA w3 _:Below w3.heap.size w3 w4));have GU:=Za hES;have hw4':=Za hw4.symm;clear hES hw4 hS3' hx3;go_wp2_with fail;rw[hw4'.out];refine(jZ w4 m K hS4.out.km [ae] _ 1 (by simp) GU.out).mono ?_;rintro e w5 ⟨rfl,hb5⟩;have hS5:=Za (hS4.out.below hb5);have hfe:Hid ([ae].all (bQ K)=bQ K ae):=Za (by simp);rw[hfe.out];clear hb5 hS4 GU q2 ql qr qrl hw4' hfe
    cases hf:bQ K ae with
    |true=>
     have hgo:Hid ((l.take (k+1)).all (jE K)=true):=Za (by rw[hst.out,hap.out,hf]);clear hf;go_wp2_with fail;exact⟨⟨k+1,by omega,by simp,hgo,hS5⟩,by simp[intOf];omega⟩
    |false=>
     have hgo:Hid (l.all (jE K)=false):=Za (hno.out (by rw[hap.out,hf]));clear hf;go_wp2_with fail;go_ret;exact⟨by rw[hgo.out];rfl,hS5.out.bl⟩
 ·obtain rfl:k=n:=by omega
  have hal:Hid (l.all (jE K)=true):=Za (by have:=hT.out;rw[List.take_of_length_le (by rw[←hn2.out];exact Nat.le_refl _)]at this;exact this);have hB3:Hid (Below w.heap.size w wl):=Za hS.out.bl;clear hT hS;go_wp2_with fail;go_ret;exact⟨by rw[hal.out];rfl,hB3.out⟩
def stC (h:Hd) (pe pf pc:Option Addr) (Aa At Al:Option Addr) (na ca nt ct nl cl:Nat):Array Value:=
 #[.int .i64 h.k,.string (ay h.x),.string (ay h.y),.pointer pe,.pointer pf,.pointer pc,.slice Aa na ca,.slice At nt ct,.slice Al nl cl,.int .i64 h.at_]
structure Snd (m:Nat) (K:List UInt8→Nat) (h:Hd) (pe pf pc:Option Addr) (Aa:Option Addr) (na ca:Nat) (cs:Array Value) (r g:Nat) (w0 w:World):Prop where
 rs:Rsv m K r w0 w
 hs:Holds w g 63 cs
 hd:dn w Evr h (.pointer pe) (.pointer pf) (.pointer pc) (.slice Aa na ca)
section
variable {m:Nat} {K:List UInt8→Nat} {h:Hd} {pe pf pc:Option Addr} {Aa At Al:Option Addr} {na ca nt ct nl cl:Nat} {cs:Array Value} {r g:Nat} {w0 w w':World}
theorem dn.below {S:Nat→Prop} {ve vf vc va:Value} (H:dn w S h ve vf vc va) (hb:Below w.heap.size w w'):dn w' S h ve vf vc va:=H.keep fun x hx _=>hb.block x hx
theorem Snd.below (H:Snd m K h pe pf pc Aa na ca cs r g w0 w) (hb:Below w.heap.size w w'):Snd m K h pe pf pc Aa na ca cs r g w0 w':=
 ⟨H.rs.below hb,H.hs.below hb H.hs.lt,H.hd.below hb⟩
theorem Snd.facts (H:Snd m K h pe pf pc Aa na ca (stC h pe pf pc Aa At Al na ca nt ct nl cl) r g w0 w):w.cell? ⟨r,0,none⟩=some (.map (some m))∧r<w.heap.size∧g<w.heap.size∧w.cell? ⟨g,0,none⟩=some (.int .i64 h.k)∧w.cell? ⟨g,1,none⟩=some (.string (ay h.x))∧w.cell? ⟨g,2,none⟩=some (.string (ay h.y))∧
  w.cell? ⟨g,3,none⟩=some (.pointer pe)∧w.cell? ⟨g,4,none⟩=some (.pointer pf)∧w.cell? ⟨g,5,none⟩=some (.pointer pc)∧w.cell? ⟨g,6,none⟩=some (.slice Aa na ca):=
 ⟨H.rs.hr.cell 0,H.rs.hr.lt,H.hs.lt,H.hs.cell 0,H.hs.cell 1,H.hs.cell 2,H.hs.cell 3,H.hs.cell 4,H.hs.cell 5,H.hs.cell 6⟩
end
theorem Di (w:World) (m:Nat) (K:List UInt8→Nat) (hK:eX w m K) (x y:List UInt8) (e f:Ex) (c:Cn) (ags:List Ag) (at_:Nat) (pe pf pc:Option Addr) (Aa At Al:Option Addr) (na ca nt ct nl cl:Nat)
  (H:dn w Evr ⟨0,x,y,e,f,c,ags,at_⟩ (.pointer pe) (.pointer pf) (.pointer pc) (.slice Aa na ca)):
  Calls Tryz.prog 42 #[.agg #[.map (some m)],.agg (stC ⟨0,x,y,e,f,c,ags,at_⟩ pe pf pc Aa At Al na ca nt ct nl cl)] w fun e' w'=>e'= .returned (.bool (aB K ⟨0,x,y,e,f,c,ags,at_⟩))∧Below w.heap.size w w':=by
 have hR:=Rsv.start hK;obtain⟨w1,hw1⟩:∃y,y=w.alloc (.cells #[.map (some m)] 86):=⟨_,rfl⟩;rw[←hw1]at hR;obtain⟨w2,hw2⟩:∃z,z=w1.alloc (.cells (stC ⟨0,x,y,e,f,c,ags,at_⟩ pe pf pc Aa At Al na ca nt ct nl cl) 63):=⟨_,rfl⟩;have hs2:=Holds.new w1 63 (stC ⟨0,x,y,e,f,c,ags,at_⟩ pe pf pc Aa At Al na ca nt ct nl cl);rw[←hw2]at hs2
 have hb2:Below w1.heap.size w1 w2:=by rw[hw2];exact aA w1 _
 have hb1:Below w.heap.size w w1:=by rw[hw1];exact aA w _
 have hsz:w1.heap.size=w.heap.size+1:=by rw[hw1];simp
 obtain⟨r,hr⟩:∃y,y=w.heap.size:=⟨_,rfl⟩;rw[hsz,←hr]at hs2;rw[←hr]at hR;have hx:=H.x;have hy:=H.y;simp only at hx hy;have hS:Snd m K ⟨0,x,y,e,f,c,ags,at_⟩ pe pf pc Aa na ca (stC ⟨0,x,y,e,f,c,ags,at_⟩ pe pf pc Aa At Al na ca nt ct nl cl) r (r+1) w w2:=⟨hR.below hb2,hs2,(H.below hb1).below hb2⟩;have hfold:Hid ((w.alloc (.cells #[.map (some m)] 86)).alloc (.cells (stC ⟨0,x,y,e,f,c,ags,at_⟩ pe pf pc Aa At Al na ca nt ct nl cl) 63)=w2):=Za (by rw[hw2,hw1]);have hrB:=Za hr.symm;clear hw1 hw2 hs2 hb2 hb1 hsz hr hR H hK;unfold stC at hfold;unfold stC;go_enter Tryz.func42,Tryz.ntmps42;go_upto_region 1 with(fail);simp only at hfold;rw[show(((0:Nat):Int))=0 from rfl]at hfold;rw[hrB.out,hfold.out];clear hfold;obtain⟨qr,qrl,qsl,q0,q1,q2,q3,q4,q5,q6⟩:=hS.facts;simp only at q0 q1 q2;have hS1:=Za hS;clear hS;go_wp2_with fail;refine(bM _ m K hS1.out.rs.km x hx).mono ?_;rintro e1 w3 ⟨rfl,hb⟩;have hS:=hS1.out.below hb;clear hb hS1 q0 q1 q2 q3 q4 q5 q6 qr qrl qsl
 cases hp0:(K x==2)with
 |true=>
  have hq0:=hp0
  try simp at hq0
  clear hp0;obtain⟨qr,qrl,qsl,q0,q1,q2,q3,q4,q5,q6⟩:=hS.facts;simp only at q0 q1 q2;have hS1:=Za hS;clear hS;go_wp2_with fail;refine(kU _ m K hS1.out.rs.km e _ hS1.out.hd.e).mono ?_;rintro e1 w4 ⟨rfl,hb⟩;have hS:=hS1.out.below hb;clear hb hS1 q0 q1 q2 q3 q4 q5 q6 qr qrl qsl
  cases hp1:dN K e with
  |true=>
   have hq1:=hp1
   try simp at hq1
   clear hp1;obtain⟨qr,qrl,qsl,q0,q1,q2,q3,q4,q5,q6⟩:=hS.facts;simp only at q0 q1 q2;have hS1:=Za hS;clear hS;have hres:Hid (aB K ⟨0,x,y,e,f,c,ags,at_⟩=true):=Za (by first| (simp[aB, *];done)| (simp[aB, *];assumption));clear hq0 hq1;go_wp2_with fail;go_ret;exact⟨by rw[hres.out];rfl,hS1.out.rs.bl⟩
  |false=>
   have hq1:=hp1
   try simp at hq1
   clear hp1;obtain⟨qr,qrl,qsl,q0,q1,q2,q3,q4,q5,q6⟩:=hS.facts;simp only at q0 q1 q2;have hS1:=Za hS;clear hS;have hres:Hid (aB K ⟨0,x,y,e,f,c,ags,at_⟩=false):=Za (by first| (simp[aB, *];done)| (simp[aB, *];assumption));clear hq0 hq1;go_wp2_with fail;go_ret;exact⟨by rw[hres.out];rfl,hS1.out.rs.bl⟩
 |false=>
  have hq0:=hp0
  try simp at hq0
  clear hp0;obtain⟨qr,qrl,qsl,q0,q1,q2,q3,q4,q5,q6⟩:=hS.facts;simp only at q0 q1 q2;have hS1:=Za hS;clear hS;have hES:=kM.one 59 hS1.out.hd.e;simp only at hES;obtain⟨wl,hwl⟩:∃z,z=World.alloc w3 (.cells #[.pointer pe] 59):=⟨_,rfl⟩;rw[←hwl]at hES;have hS:=hS1.out.below (by rw[hwl];exact aA _ _:Below (World.heap w3).size w3 wl);have hS2:=Za hS;have hES2:=Za hES;have hwl2:=Za hwl.symm;clear hS hES hwl;go_wp2_with fail;rw[hwl2.out];refine(jZ wl m K hS2.out.rs.km [e] _ 1 (by simp) hES2.out).mono ?_;rintro e1 w4 ⟨rfl,hb⟩;have hS:=hS2.out.below hb;have hfe:Hid ([e].all (bQ K)=bQ K e):=Za (by simp);rw[hfe.out];clear hb hS1 hS2 hES2 hwl2 hfe q0 q1 q2 q3 q4 q5 q6 qr qrl qsl
  cases hp1:bQ K e with
  |true=>
   have hq1:=hp1
   try simp at hq1
   clear hp1;obtain⟨qr,qrl,qsl,q0,q1,q2,q3,q4,q5,q6⟩:=hS.facts;simp only at q0 q1 q2;have hS1:=Za hS;clear hS;have hres:Hid (aB K ⟨0,x,y,e,f,c,ags,at_⟩=true):=Za (by first| (simp[aB, *];done)| (simp[aB, *];assumption));clear hq0 hq1;go_wp2_with fail;go_ret;exact⟨by rw[hres.out];rfl,hS1.out.rs.bl⟩
  |false=>
   have hq1:=hp1
   try simp at hq1
   clear hp1;obtain⟨qr,qrl,qsl,q0,q1,q2,q3,q4,q5,q6⟩:=hS.facts;simp only at q0 q1 q2;have hS1:=Za hS;clear hS;have hres:Hid (aB K ⟨0,x,y,e,f,c,ags,at_⟩=false):=Za (by first| (simp[aB, *];done)| (simp[aB, *];assumption));clear hq0 hq1;go_wp2_with fail;go_ret;exact⟨by rw[hres.out];rfl,hS1.out.rs.bl⟩
theorem Dh (w:World) (m:Nat) (K:List UInt8→Nat) (hK:eX w m K) (x y:List UInt8) (e f:Ex) (c:Cn) (ags:List Ag) (at_:Nat) (pe pf pc:Option Addr) (Aa At Al:Option Addr) (na ca nt ct nl cl:Nat)
  (H:dn w Evr ⟨1,x,y,e,f,c,ags,at_⟩ (.pointer pe) (.pointer pf) (.pointer pc) (.slice Aa na ca)):
  Calls Tryz.prog 42 #[.agg #[.map (some m)],.agg (stC ⟨1,x,y,e,f,c,ags,at_⟩ pe pf pc Aa At Al na ca nt ct nl cl)] w fun e' w'=>e'= .returned (.bool (aB K ⟨1,x,y,e,f,c,ags,at_⟩))∧Below w.heap.size w w':=by
 have hR:=Rsv.start hK;obtain⟨w1,hw1⟩:∃y,y=w.alloc (.cells #[.map (some m)] 86):=⟨_,rfl⟩;rw[←hw1]at hR;obtain⟨w2,hw2⟩:∃z,z=w1.alloc (.cells (stC ⟨1,x,y,e,f,c,ags,at_⟩ pe pf pc Aa At Al na ca nt ct nl cl) 63):=⟨_,rfl⟩;have hs2:=Holds.new w1 63 (stC ⟨1,x,y,e,f,c,ags,at_⟩ pe pf pc Aa At Al na ca nt ct nl cl);rw[←hw2]at hs2
 have hb2:Below w1.heap.size w1 w2:=by rw[hw2];exact aA w1 _
 have hb1:Below w.heap.size w w1:=by rw[hw1];exact aA w _
 have hsz:w1.heap.size=w.heap.size+1:=by rw[hw1];simp
 obtain⟨r,hr⟩:∃y,y=w.heap.size:=⟨_,rfl⟩;rw[hsz,←hr]at hs2;rw[←hr]at hR;have hx:=H.x;have hy:=H.y;simp only at hx hy;have hS:Snd m K ⟨1,x,y,e,f,c,ags,at_⟩ pe pf pc Aa na ca (stC ⟨1,x,y,e,f,c,ags,at_⟩ pe pf pc Aa At Al na ca nt ct nl cl) r (r+1) w w2:=⟨hR.below hb2,hs2,(H.below hb1).below hb2⟩;have hfold:Hid ((w.alloc (.cells #[.map (some m)] 86)).alloc (.cells (stC ⟨1,x,y,e,f,c,ags,at_⟩ pe pf pc Aa At Al na ca nt ct nl cl) 63)=w2):=Za (by rw[hw2,hw1]);have hrB:=Za hr.symm;clear hw1 hw2 hs2 hb2 hb1 hsz hr hR H hK;unfold stC at hfold;unfold stC;go_enter Tryz.func42,Tryz.ntmps42;go_upto_region 1 with(fail);simp only at hfold;rw[show(((1:Nat):Int))=1 from rfl]at hfold;rw[hrB.out,hfold.out];clear hfold;obtain⟨qr,qrl,qsl,q0,q1,q2,q3,q4,q5,q6⟩:=hS.facts;simp only at q0 q1 q2;have hS1:=Za hS;clear hS;go_wp2_with fail;refine(bM _ m K hS1.out.rs.km x hx).mono ?_;rintro e1 w3 ⟨rfl,hb⟩;have hS:=hS1.out.below hb;clear hb hS1 q0 q1 q2 q3 q4 q5 q6 qr qrl qsl
 cases hp0:(K x==2)with
 |true=>
  have hq0:=hp0
  try simp at hq0
  clear hp0;obtain⟨qr,qrl,qsl,q0,q1,q2,q3,q4,q5,q6⟩:=hS.facts;simp only at q0 q1 q2;have hS1:=Za hS;clear hS;go_wp2_with fail;refine(iO _ m K hS1.out.rs.km y hy).mono ?_;rintro e1 w4 ⟨rfl,hb⟩;have hS:=hS1.out.below hb;clear hb hS1 q0 q1 q2 q3 q4 q5 q6 qr qrl qsl
  cases hp1:(K y==0)with
  |true=>
   have hq1:=hp1
   try simp at hq1
   clear hp1;obtain⟨qr,qrl,qsl,q0,q1,q2,q3,q4,q5,q6⟩:=hS.facts;simp only at q0 q1 q2;have hS1:=Za hS;clear hS;have hres:Hid (aB K ⟨1,x,y,e,f,c,ags,at_⟩=true):=Za (by first| (simp[aB, *];done)| (simp[aB, *];assumption));clear hq0 hq1;go_wp2_with fail;go_ret;exact⟨by rw[hres.out];rfl,hS1.out.rs.bl⟩
  |false=>
   have hq1:=hp1
   try simp at hq1
   clear hp1;obtain⟨qr,qrl,qsl,q0,q1,q2,q3,q4,q5,q6⟩:=hS.facts;simp only at q0 q1 q2;have hS1:=Za hS;clear hS;have hres:Hid (aB K ⟨1,x,y,e,f,c,ags,at_⟩=false):=Za (by first| (simp[aB, *];done)| (simp[aB, *];assumption));clear hq0 hq1;go_wp2_with fail;go_ret;exact⟨by rw[hres.out];rfl,hS1.out.rs.bl⟩
 |false=>
  have hq0:=hp0
  try simp at hq0
  clear hp0;obtain⟨qr,qrl,qsl,q0,q1,q2,q3,q4,q5,q6⟩:=hS.facts;simp only at q0 q1 q2;have hS1:=Za hS;clear hS;have hres:Hid (aB K ⟨1,x,y,e,f,c,ags,at_⟩=false):=Za (by first| (simp[aB, *];done)| (simp[aB, *];assumption));clear hq0;go_wp2_with fail;go_ret;exact⟨by rw[hres.out];rfl,hS1.out.rs.bl⟩
theorem Df (w:World) (m:Nat) (K:List UInt8→Nat) (hK:eX w m K) (x y:List UInt8) (e f:Ex) (c:Cn) (ags:List Ag) (at_:Nat) (pe pf pc:Option Addr) (Aa At Al:Option Addr) (na ca nt ct nl cl:Nat)
  (H:dn w Evr ⟨2,x,y,e,f,c,ags,at_⟩ (.pointer pe) (.pointer pf) (.pointer pc) (.slice Aa na ca)):
  Calls Tryz.prog 42 #[.agg #[.map (some m)],.agg (stC ⟨2,x,y,e,f,c,ags,at_⟩ pe pf pc Aa At Al na ca nt ct nl cl)] w fun e' w'=>e'= .returned (.bool (aB K ⟨2,x,y,e,f,c,ags,at_⟩))∧Below w.heap.size w w':=by
 have hR:=Rsv.start hK;obtain⟨w1,hw1⟩:∃y,y=w.alloc (.cells #[.map (some m)] 86):=⟨_,rfl⟩;rw[←hw1]at hR;obtain⟨w2,hw2⟩:∃z,z=w1.alloc (.cells (stC ⟨2,x,y,e,f,c,ags,at_⟩ pe pf pc Aa At Al na ca nt ct nl cl) 63):=⟨_,rfl⟩;have hs2:=Holds.new w1 63 (stC ⟨2,x,y,e,f,c,ags,at_⟩ pe pf pc Aa At Al na ca nt ct nl cl);rw[←hw2]at hs2
 have hb2:Below w1.heap.size w1 w2:=by rw[hw2];exact aA w1 _
 have hb1:Below w.heap.size w w1:=by rw[hw1];exact aA w _
 have hsz:w1.heap.size=w.heap.size+1:=by rw[hw1];simp
 obtain⟨r,hr⟩:∃y,y=w.heap.size:=⟨_,rfl⟩;rw[hsz,←hr]at hs2;rw[←hr]at hR;have hx:=H.x;have hy:=H.y;simp only at hx hy;have hS:Snd m K ⟨2,x,y,e,f,c,ags,at_⟩ pe pf pc Aa na ca (stC ⟨2,x,y,e,f,c,ags,at_⟩ pe pf pc Aa At Al na ca nt ct nl cl) r (r+1) w w2:=⟨hR.below hb2,hs2,(H.below hb1).below hb2⟩;have hfold:Hid ((w.alloc (.cells #[.map (some m)] 86)).alloc (.cells (stC ⟨2,x,y,e,f,c,ags,at_⟩ pe pf pc Aa At Al na ca nt ct nl cl) 63)=w2):=Za (by rw[hw2,hw1]);have hrB:=Za hr.symm;clear hw1 hw2 hs2 hb2 hb1 hsz hr hR H hK;unfold stC at hfold;unfold stC;go_enter Tryz.func42,Tryz.ntmps42;go_upto_region 1 with(fail);simp only at hfold;rw[show(((2:Nat):Int))=2 from rfl]at hfold;rw[hrB.out,hfold.out];clear hfold;obtain⟨qr,qrl,qsl,q0,q1,q2,q3,q4,q5,q6⟩:=hS.facts;simp only at q0 q1 q2;have hS1:=Za hS;clear hS;go_wp2_with fail;refine(bM _ m K hS1.out.rs.km x hx).mono ?_;rintro e1 w3 ⟨rfl,hb⟩;have hS:=hS1.out.below hb;clear hb hS1 q0 q1 q2 q3 q4 q5 q6 qr qrl qsl
 cases hp0:(K x==2)with
 |true=>
  have hq0:=hp0
  try simp at hq0
  clear hp0;obtain⟨qr,qrl,qsl,q0,q1,q2,q3,q4,q5,q6⟩:=hS.facts;simp only at q0 q1 q2;have hS1:=Za hS;clear hS;go_wp2_with fail;refine(bM _ m K hS1.out.rs.km y hy).mono ?_;rintro e1 w4 ⟨rfl,hb⟩;have hS:=hS1.out.below hb;clear hb hS1 q0 q1 q2 q3 q4 q5 q6 qr qrl qsl
  cases hp1:(K y==2)with
  |true=>
   have hq1:=hp1
   try simp at hq1
   clear hp1;obtain⟨qr,qrl,qsl,q0,q1,q2,q3,q4,q5,q6⟩:=hS.facts;simp only at q0 q1 q2;have hS1:=Za hS;clear hS;have hres:Hid (aB K ⟨2,x,y,e,f,c,ags,at_⟩=true):=Za (by first| (simp[aB, *];done)| (simp[aB, *];assumption));clear hq0 hq1;go_wp2_with fail;go_ret;exact⟨by rw[hres.out];rfl,hS1.out.rs.bl⟩
  |false=>
   have hq1:=hp1
   try simp at hq1
   clear hp1;obtain⟨qr,qrl,qsl,q0,q1,q2,q3,q4,q5,q6⟩:=hS.facts;simp only at q0 q1 q2;have hS1:=Za hS;clear hS;have hres:Hid (aB K ⟨2,x,y,e,f,c,ags,at_⟩=false):=Za (by first| (simp[aB, *];done)| (simp[aB, *];assumption));clear hq0 hq1;go_wp2_with fail;go_ret;exact⟨by rw[hres.out];rfl,hS1.out.rs.bl⟩
 |false=>
  have hq0:=hp0
  try simp at hq0
  clear hp0;obtain⟨qr,qrl,qsl,q0,q1,q2,q3,q4,q5,q6⟩:=hS.facts;simp only at q0 q1 q2;have hS1:=Za hS;clear hS;have hres:Hid (aB K ⟨2,x,y,e,f,c,ags,at_⟩=false):=Za (by first| (simp[aB, *];done)| (simp[aB, *];assumption));clear hq0;go_wp2_with fail;go_ret;exact⟨by rw[hres.out];rfl,hS1.out.rs.bl⟩
theorem Dc (w:World) (m:Nat) (K:List UInt8→Nat) (hK:eX w m K) (x y:List UInt8) (e f:Ex) (c:Cn) (ags:List Ag) (at_:Nat) (pe pf pc:Option Addr) (Aa At Al:Option Addr) (na ca nt ct nl cl:Nat)
  (H:dn w Evr ⟨3,x,y,e,f,c,ags,at_⟩ (.pointer pe) (.pointer pf) (.pointer pc) (.slice Aa na ca)):
  Calls Tryz.prog 42 #[.agg #[.map (some m)],.agg (stC ⟨3,x,y,e,f,c,ags,at_⟩ pe pf pc Aa At Al na ca nt ct nl cl)] w fun e' w'=>e'= .returned (.bool (aB K ⟨3,x,y,e,f,c,ags,at_⟩))∧Below w.heap.size w w':=by
 have hR:=Rsv.start hK;obtain⟨w1,hw1⟩:∃y,y=w.alloc (.cells #[.map (some m)] 86):=⟨_,rfl⟩;rw[←hw1]at hR;obtain⟨w2,hw2⟩:∃z,z=w1.alloc (.cells (stC ⟨3,x,y,e,f,c,ags,at_⟩ pe pf pc Aa At Al na ca nt ct nl cl) 63):=⟨_,rfl⟩;have hs2:=Holds.new w1 63 (stC ⟨3,x,y,e,f,c,ags,at_⟩ pe pf pc Aa At Al na ca nt ct nl cl);rw[←hw2]at hs2
 have hb2:Below w1.heap.size w1 w2:=by rw[hw2];exact aA w1 _
 have hb1:Below w.heap.size w w1:=by rw[hw1];exact aA w _
 have hsz:w1.heap.size=w.heap.size+1:=by rw[hw1];simp
 obtain⟨r,hr⟩:∃y,y=w.heap.size:=⟨_,rfl⟩;rw[hsz,←hr]at hs2;rw[←hr]at hR;have hx:=H.x;have hy:=H.y;simp only at hx hy;have hS:Snd m K ⟨3,x,y,e,f,c,ags,at_⟩ pe pf pc Aa na ca (stC ⟨3,x,y,e,f,c,ags,at_⟩ pe pf pc Aa At Al na ca nt ct nl cl) r (r+1) w w2:=⟨hR.below hb2,hs2,(H.below hb1).below hb2⟩;have hfold:Hid ((w.alloc (.cells #[.map (some m)] 86)).alloc (.cells (stC ⟨3,x,y,e,f,c,ags,at_⟩ pe pf pc Aa At Al na ca nt ct nl cl) 63)=w2):=Za (by rw[hw2,hw1]);have hrB:=Za hr.symm;clear hw1 hw2 hs2 hb2 hb1 hsz hr hR H hK;unfold stC at hfold;unfold stC;go_enter Tryz.func42,Tryz.ntmps42;go_upto_region 1 with(fail);simp only at hfold;rw[show(((3:Nat):Int))=3 from rfl]at hfold;rw[hrB.out,hfold.out];clear hfold;obtain⟨qr,qrl,qsl,q0,q1,q2,q3,q4,q5,q6⟩:=hS.facts;simp only at q0 q1 q2;have hS1:=Za hS;clear hS;go_wp2_with fail;refine(bM _ m K hS1.out.rs.km x hx).mono ?_;rintro e1 w3 ⟨rfl,hb⟩;have hS:=hS1.out.below hb;clear hb hS1 q0 q1 q2 q3 q4 q5 q6 qr qrl qsl
 cases hp0:(K x==2)with
 |true=>
  have hq0:=hp0
  try simp at hq0
  clear hp0;obtain⟨qr,qrl,qsl,q0,q1,q2,q3,q4,q5,q6⟩:=hS.facts;simp only at q0 q1 q2;have hS1:=Za hS;clear hS;have hres:Hid (aB K ⟨3,x,y,e,f,c,ags,at_⟩=true):=Za (by first| (simp[aB, *];done)| (simp[aB, *];assumption));clear hq0;go_wp2_with fail;go_ret;exact⟨by rw[hres.out];rfl,hS1.out.rs.bl⟩
 |false=>
  have hq0:=hp0
  try simp at hq0
  clear hp0;obtain⟨qr,qrl,qsl,q0,q1,q2,q3,q4,q5,q6⟩:=hS.facts;simp only at q0 q1 q2;have hS1:=Za hS;clear hS;have hres:Hid (aB K ⟨3,x,y,e,f,c,ags,at_⟩=false):=Za (by first| (simp[aB, *];done)| (simp[aB, *];assumption));clear hq0;go_wp2_with fail;go_ret;exact⟨by rw[hres.out];rfl,hS1.out.rs.bl⟩
theorem C_ (w:World) (m:Nat) (K:List UInt8→Nat) (hK:eX w m K) (x y:List UInt8) (e f:Ex) (c:Cn) (ags:List Ag) (at_:Nat) (pe pf pc:Option Addr) (Aa At Al:Option Addr) (na ca nt ct nl cl:Nat)
  (H:dn w Evr ⟨4,x,y,e,f,c,ags,at_⟩ (.pointer pe) (.pointer pf) (.pointer pc) (.slice Aa na ca)):
  Calls Tryz.prog 42 #[.agg #[.map (some m)],.agg (stC ⟨4,x,y,e,f,c,ags,at_⟩ pe pf pc Aa At Al na ca nt ct nl cl)] w fun e' w'=>e'= .returned (.bool (aB K ⟨4,x,y,e,f,c,ags,at_⟩))∧Below w.heap.size w w':=by
 have hR:=Rsv.start hK;obtain⟨w1,hw1⟩:∃y,y=w.alloc (.cells #[.map (some m)] 86):=⟨_,rfl⟩;rw[←hw1]at hR;obtain⟨w2,hw2⟩:∃z,z=w1.alloc (.cells (stC ⟨4,x,y,e,f,c,ags,at_⟩ pe pf pc Aa At Al na ca nt ct nl cl) 63):=⟨_,rfl⟩;have hs2:=Holds.new w1 63 (stC ⟨4,x,y,e,f,c,ags,at_⟩ pe pf pc Aa At Al na ca nt ct nl cl);rw[←hw2]at hs2
 have hb2:Below w1.heap.size w1 w2:=by rw[hw2];exact aA w1 _
 have hb1:Below w.heap.size w w1:=by rw[hw1];exact aA w _
 have hsz:w1.heap.size=w.heap.size+1:=by rw[hw1];simp
 obtain⟨r,hr⟩:∃y,y=w.heap.size:=⟨_,rfl⟩;rw[hsz,←hr]at hs2;rw[←hr]at hR;have hx:=H.x;have hy:=H.y;simp only at hx hy;have hS:Snd m K ⟨4,x,y,e,f,c,ags,at_⟩ pe pf pc Aa na ca (stC ⟨4,x,y,e,f,c,ags,at_⟩ pe pf pc Aa At Al na ca nt ct nl cl) r (r+1) w w2:=⟨hR.below hb2,hs2,(H.below hb1).below hb2⟩;have hfold:Hid ((w.alloc (.cells #[.map (some m)] 86)).alloc (.cells (stC ⟨4,x,y,e,f,c,ags,at_⟩ pe pf pc Aa At Al na ca nt ct nl cl) 63)=w2):=Za (by rw[hw2,hw1]);have hrB:=Za hr.symm;clear hw1 hw2 hs2 hb2 hb1 hsz hr hR H hK;unfold stC at hfold;unfold stC;go_enter Tryz.func42,Tryz.ntmps42;go_upto_region 1 with(fail);simp only at hfold;rw[show(((4:Nat):Int))=4 from rfl]at hfold;rw[hrB.out,hfold.out];clear hfold;obtain⟨qr,qrl,qsl,q0,q1,q2,q3,q4,q5,q6⟩:=hS.facts;simp only at q0 q1 q2;have hS1:=Za hS;clear hS;go_wp2_with fail;refine(bM _ m K hS1.out.rs.km x hx).mono ?_;rintro e1 w3 ⟨rfl,hb⟩;have hS:=hS1.out.below hb;clear hb hS1 q0 q1 q2 q3 q4 q5 q6 qr qrl qsl
 cases hp0:(K x==2)with
 |true=>
  have hq0:=hp0
  try simp at hq0
  clear hp0;obtain⟨qr,qrl,qsl,q0,q1,q2,q3,q4,q5,q6⟩:=hS.facts;simp only at q0 q1 q2;have hS1:=Za hS;clear hS;have hres:Hid (aB K ⟨4,x,y,e,f,c,ags,at_⟩=false):=Za (by first| (simp[aB, *];done)| (simp[aB, *];assumption));clear hq0;go_wp2_with fail;go_ret;exact⟨by rw[hres.out];rfl,hS1.out.rs.bl⟩
 |false=>
  have hq0:=hp0
  try simp at hq0
  clear hp0;obtain⟨qr,qrl,qsl,q0,q1,q2,q3,q4,q5,q6⟩:=hS.facts;simp only at q0 q1 q2;have hS1:=Za hS;clear hS;go_wp2_with fail;refine(bM _ m K hS1.out.rs.km y hy).mono ?_;rintro e1 w4 ⟨rfl,hb⟩;have hS:=hS1.out.below hb;clear hb hS1 q0 q1 q2 q3 q4 q5 q6 qr qrl qsl
  cases hp1:(K y==2)with
  |true=>
   have hq1:=hp1
   try simp at hq1
   clear hp1;obtain⟨qr,qrl,qsl,q0,q1,q2,q3,q4,q5,q6⟩:=hS.facts;simp only at q0 q1 q2;have hS1:=Za hS;clear hS;have hres:Hid (aB K ⟨4,x,y,e,f,c,ags,at_⟩=true):=Za (by first| (simp[aB, *];done)| (simp[aB, *];assumption));clear hq0 hq1;go_wp2_with fail;go_ret;exact⟨by rw[hres.out];rfl,hS1.out.rs.bl⟩
  |false=>
   have hq1:=hp1
   try simp at hq1
   clear hp1;obtain⟨qr,qrl,qsl,q0,q1,q2,q3,q4,q5,q6⟩:=hS.facts;simp only at q0 q1 q2;have hS1:=Za hS;clear hS;have hres:Hid (aB K ⟨4,x,y,e,f,c,ags,at_⟩=false):=Za (by first| (simp[aB, *];done)| (simp[aB, *];assumption));clear hq0 hq1;go_wp2_with fail;go_ret;exact⟨by rw[hres.out];rfl,hS1.out.rs.bl⟩
theorem C9 (w:World) (m:Nat) (K:List UInt8→Nat) (hK:eX w m K) (x y:List UInt8) (e f:Ex) (c:Cn) (ags:List Ag) (at_:Nat) (pe pf pc:Option Addr) (Aa At Al:Option Addr) (na ca nt ct nl cl:Nat)
  (H:dn w Evr ⟨5,x,y,e,f,c,ags,at_⟩ (.pointer pe) (.pointer pf) (.pointer pc) (.slice Aa na ca)):
  Calls Tryz.prog 42 #[.agg #[.map (some m)],.agg (stC ⟨5,x,y,e,f,c,ags,at_⟩ pe pf pc Aa At Al na ca nt ct nl cl)] w fun e' w'=>e'= .returned (.bool (aB K ⟨5,x,y,e,f,c,ags,at_⟩))∧Below w.heap.size w w':=by
 have hR:=Rsv.start hK;obtain⟨w1,hw1⟩:∃y,y=w.alloc (.cells #[.map (some m)] 86):=⟨_,rfl⟩;rw[←hw1]at hR;obtain⟨w2,hw2⟩:∃z,z=w1.alloc (.cells (stC ⟨5,x,y,e,f,c,ags,at_⟩ pe pf pc Aa At Al na ca nt ct nl cl) 63):=⟨_,rfl⟩;have hs2:=Holds.new w1 63 (stC ⟨5,x,y,e,f,c,ags,at_⟩ pe pf pc Aa At Al na ca nt ct nl cl);rw[←hw2]at hs2
 have hb2:Below w1.heap.size w1 w2:=by rw[hw2];exact aA w1 _
 have hb1:Below w.heap.size w w1:=by rw[hw1];exact aA w _
 have hsz:w1.heap.size=w.heap.size+1:=by rw[hw1];simp
 obtain⟨r,hr⟩:∃y,y=w.heap.size:=⟨_,rfl⟩;rw[hsz,←hr]at hs2;rw[←hr]at hR;have hx:=H.x;have hy:=H.y;simp only at hx hy;have hS:Snd m K ⟨5,x,y,e,f,c,ags,at_⟩ pe pf pc Aa na ca (stC ⟨5,x,y,e,f,c,ags,at_⟩ pe pf pc Aa At Al na ca nt ct nl cl) r (r+1) w w2:=⟨hR.below hb2,hs2,(H.below hb1).below hb2⟩;have hfold:Hid ((w.alloc (.cells #[.map (some m)] 86)).alloc (.cells (stC ⟨5,x,y,e,f,c,ags,at_⟩ pe pf pc Aa At Al na ca nt ct nl cl) 63)=w2):=Za (by rw[hw2,hw1]);have hrB:=Za hr.symm;clear hw1 hw2 hs2 hb2 hb1 hsz hr hR H hK;unfold stC at hfold;unfold stC;go_enter Tryz.func42,Tryz.ntmps42;go_upto_region 1 with(fail);simp only at hfold;rw[show(((5:Nat):Int))=5 from rfl]at hfold;rw[hrB.out,hfold.out];clear hfold;obtain⟨qr,qrl,qsl,q0,q1,q2,q3,q4,q5,q6⟩:=hS.facts;simp only at q0 q1 q2;have hS1:=Za hS;clear hS;go_wp2_with fail;refine(bM _ m K hS1.out.rs.km x hx).mono ?_;rintro e1 w3 ⟨rfl,hb⟩;have hS:=hS1.out.below hb;clear hb hS1 q0 q1 q2 q3 q4 q5 q6 qr qrl qsl
 cases hp0:(K x==2)with
 |true=>
  have hq0:=hp0
  try simp at hq0
  clear hp0;obtain⟨qr,qrl,qsl,q0,q1,q2,q3,q4,q5,q6⟩:=hS.facts;simp only at q0 q1 q2;have hS1:=Za hS;clear hS;have hES:=kM.one 59 hS1.out.hd.e;simp only at hES;obtain⟨wl,hwl⟩:∃z,z=World.alloc w3 (.cells #[.pointer pe] 59):=⟨_,rfl⟩;rw[←hwl]at hES;have hS:=hS1.out.below (by rw[hwl];exact aA _ _:Below (World.heap w3).size w3 wl);have hS2:=Za hS;have hES2:=Za hES;have hwl2:=Za hwl.symm;clear hS hES hwl;go_wp2_with fail;rw[hwl2.out];refine(jZ wl m K hS2.out.rs.km [e] _ 1 (by simp) hES2.out).mono ?_;rintro e1 w4 ⟨rfl,hb⟩;have hS:=hS2.out.below hb;have hfe:Hid ([e].all (bQ K)=bQ K e):=Za (by simp);rw[hfe.out];clear hb hS1 hS2 hES2 hwl2 hfe q0 q1 q2 q3 q4 q5 q6 qr qrl qsl
  cases hp1:bQ K e with
  |true=>
   have hq1:=hp1
   try simp at hq1
   clear hp1;obtain⟨qr,qrl,qsl,q0,q1,q2,q3,q4,q5,q6⟩:=hS.facts;simp only at q0 q1 q2;have hS1:=Za hS;clear hS;have hres:Hid (aB K ⟨5,x,y,e,f,c,ags,at_⟩=true):=Za (by first| (simp[aB, *];done)| (simp[aB, *];assumption));clear hq0 hq1;go_wp2_with fail;go_ret;exact⟨by rw[hres.out];rfl,hS1.out.rs.bl⟩
  |false=>
   have hq1:=hp1
   try simp at hq1
   clear hp1;obtain⟨qr,qrl,qsl,q0,q1,q2,q3,q4,q5,q6⟩:=hS.facts;simp only at q0 q1 q2;have hS1:=Za hS;clear hS;have hres:Hid (aB K ⟨5,x,y,e,f,c,ags,at_⟩=false):=Za (by first| (simp[aB, *];done)| (simp[aB, *];assumption));clear hq0 hq1;go_wp2_with fail;go_ret;exact⟨by rw[hres.out];rfl,hS1.out.rs.bl⟩
 |false=>
  have hq0:=hp0
  try simp at hq0
  clear hp0;obtain⟨qr,qrl,qsl,q0,q1,q2,q3,q4,q5,q6⟩:=hS.facts;simp only at q0 q1 q2;have hS1:=Za hS;clear hS;have hres:Hid (aB K ⟨5,x,y,e,f,c,ags,at_⟩=false):=Za (by first| (simp[aB, *];done)| (simp[aB, *];assumption));clear hq0;go_wp2_with fail;go_ret;exact⟨by rw[hres.out];rfl,hS1.out.rs.bl⟩
theorem CZ (w:World) (m:Nat) (K:List UInt8→Nat) (hK:eX w m K) (x y:List UInt8) (e f:Ex) (c:Cn) (ags:List Ag) (at_:Nat) (pe pf pc:Option Addr) (Aa At Al:Option Addr) (na ca nt ct nl cl:Nat)
  (H:dn w Evr ⟨6,x,y,e,f,c,ags,at_⟩ (.pointer pe) (.pointer pf) (.pointer pc) (.slice Aa na ca)):
  Calls Tryz.prog 42 #[.agg #[.map (some m)],.agg (stC ⟨6,x,y,e,f,c,ags,at_⟩ pe pf pc Aa At Al na ca nt ct nl cl)] w fun e' w'=>e'= .returned (.bool (aB K ⟨6,x,y,e,f,c,ags,at_⟩))∧Below w.heap.size w w':=by
 have hR:=Rsv.start hK;obtain⟨w1,hw1⟩:∃y,y=w.alloc (.cells #[.map (some m)] 86):=⟨_,rfl⟩;rw[←hw1]at hR;obtain⟨w2,hw2⟩:∃z,z=w1.alloc (.cells (stC ⟨6,x,y,e,f,c,ags,at_⟩ pe pf pc Aa At Al na ca nt ct nl cl) 63):=⟨_,rfl⟩;have hs2:=Holds.new w1 63 (stC ⟨6,x,y,e,f,c,ags,at_⟩ pe pf pc Aa At Al na ca nt ct nl cl);rw[←hw2]at hs2
 have hb2:Below w1.heap.size w1 w2:=by rw[hw2];exact aA w1 _
 have hb1:Below w.heap.size w w1:=by rw[hw1];exact aA w _
 have hsz:w1.heap.size=w.heap.size+1:=by rw[hw1];simp
 obtain⟨r,hr⟩:∃y,y=w.heap.size:=⟨_,rfl⟩;rw[hsz,←hr]at hs2;rw[←hr]at hR;have hx:=H.x;have hy:=H.y;simp only at hx hy;have hS:Snd m K ⟨6,x,y,e,f,c,ags,at_⟩ pe pf pc Aa na ca (stC ⟨6,x,y,e,f,c,ags,at_⟩ pe pf pc Aa At Al na ca nt ct nl cl) r (r+1) w w2:=⟨hR.below hb2,hs2,(H.below hb1).below hb2⟩;have hfold:Hid ((w.alloc (.cells #[.map (some m)] 86)).alloc (.cells (stC ⟨6,x,y,e,f,c,ags,at_⟩ pe pf pc Aa At Al na ca nt ct nl cl) 63)=w2):=Za (by rw[hw2,hw1]);have hrB:=Za hr.symm;clear hw1 hw2 hs2 hb2 hb1 hsz hr hR H hK;unfold stC at hfold;unfold stC;go_enter Tryz.func42,Tryz.ntmps42;go_upto_region 1 with(fail);simp only at hfold;rw[show(((6:Nat):Int))=6 from rfl]at hfold;rw[hrB.out,hfold.out];clear hfold;obtain⟨qr,qrl,qsl,q0,q1,q2,q3,q4,q5,q6⟩:=hS.facts;simp only at q0 q1 q2;have hS1:=Za hS;clear hS;go_wp2_with fail;refine(bM _ m K hS1.out.rs.km x hx).mono ?_;rintro e1 w3 ⟨rfl,hb⟩;have hS:=hS1.out.below hb;clear hb hS1 q0 q1 q2 q3 q4 q5 q6 qr qrl qsl
 cases hp0:(K x==2)with
 |true=>
  have hq0:=hp0
  try simp at hq0
  clear hp0;obtain⟨qr,qrl,qsl,q0,q1,q2,q3,q4,q5,q6⟩:=hS.facts;simp only at q0 q1 q2;have hS1:=Za hS;clear hS;have hres:Hid (aB K ⟨6,x,y,e,f,c,ags,at_⟩=false):=Za (by first| (simp[aB, *];done)| (simp[aB, *];assumption));clear hq0;go_wp2_with fail;go_ret;exact⟨by rw[hres.out];rfl,hS1.out.rs.bl⟩
 |false=>
  have hq0:=hp0
  try simp at hq0
  clear hp0;obtain⟨qr,qrl,qsl,q0,q1,q2,q3,q4,q5,q6⟩:=hS.facts;simp only at q0 q1 q2;have hS1:=Za hS;clear hS;go_wp2_with fail;refine(iO _ m K hS1.out.rs.km y hy).mono ?_;rintro e1 w4 ⟨rfl,hb⟩;have hS:=hS1.out.below hb;clear hb hS1 q0 q1 q2 q3 q4 q5 q6 qr qrl qsl
  cases hp1:(K y==0)with
  |true=>
   have hq1:=hp1
   try simp at hq1
   clear hp1;obtain⟨qr,qrl,qsl,q0,q1,q2,q3,q4,q5,q6⟩:=hS.facts;simp only at q0 q1 q2;have hS1:=Za hS;clear hS;have hES:=kM.one 59 hS1.out.hd.e;simp only at hES;obtain⟨wl,hwl⟩:∃z,z=World.alloc w4 (.cells #[.pointer pe] 59):=⟨_,rfl⟩;rw[←hwl]at hES;have hS:=hS1.out.below (by rw[hwl];exact aA _ _:Below (World.heap w4).size w4 wl);have hS2:=Za hS;have hES2:=Za hES;have hwl2:=Za hwl.symm;clear hS hES hwl;go_wp2_with fail;rw[hwl2.out];refine(jZ wl m K hS2.out.rs.km [e] _ 1 (by simp) hES2.out).mono ?_;rintro e1 w5 ⟨rfl,hb⟩;have hS:=hS2.out.below hb;have hfe:Hid ([e].all (bQ K)=bQ K e):=Za (by simp);rw[hfe.out];clear hb hS1 hS2 hES2 hwl2 hfe q0 q1 q2 q3 q4 q5 q6 qr qrl qsl
   cases hp2:bQ K e with
   |true=>
    have hq2:=hp2
    try simp at hq2
    clear hp2;obtain⟨qr,qrl,qsl,q0,q1,q2,q3,q4,q5,q6⟩:=hS.facts;simp only at q0 q1 q2;have hS1:=Za hS;clear hS;have hres:Hid (aB K ⟨6,x,y,e,f,c,ags,at_⟩=true):=Za (by first| (simp[aB, *];done)| (simp[aB, *];assumption));clear hq0 hq1 hq2;go_wp2_with fail;go_ret;exact⟨by rw[hres.out];rfl,hS1.out.rs.bl⟩
   |false=>
    have hq2:=hp2
    try simp at hq2
    clear hp2;obtain⟨qr,qrl,qsl,q0,q1,q2,q3,q4,q5,q6⟩:=hS.facts;simp only at q0 q1 q2;have hS1:=Za hS;clear hS;have hres:Hid (aB K ⟨6,x,y,e,f,c,ags,at_⟩=false):=Za (by first| (simp[aB, *];done)| (simp[aB, *];assumption));clear hq0 hq1 hq2;go_wp2_with fail;go_ret;exact⟨by rw[hres.out];rfl,hS1.out.rs.bl⟩
  |false=>
   have hq1:=hp1
   try simp at hq1
   clear hp1;obtain⟨qr,qrl,qsl,q0,q1,q2,q3,q4,q5,q6⟩:=hS.facts;simp only at q0 q1 q2;have hS1:=Za hS;clear hS;have hres:Hid (aB K ⟨6,x,y,e,f,c,ags,at_⟩=false):=Za (by first| (simp[aB, *];done)| (simp[aB, *];assumption));clear hq0 hq1;go_wp2_with fail;go_ret;exact⟨by rw[hres.out];rfl,hS1.out.rs.bl⟩
theorem CY (w:World) (m:Nat) (K:List UInt8→Nat) (hK:eX w m K) (x y:List UInt8) (e f:Ex) (c:Cn) (ags:List Ag) (at_:Nat) (pe pf pc:Option Addr) (Aa At Al:Option Addr) (na ca nt ct nl cl:Nat)
  (H:dn w Evr ⟨7,x,y,e,f,c,ags,at_⟩ (.pointer pe) (.pointer pf) (.pointer pc) (.slice Aa na ca)):
  Calls Tryz.prog 42 #[.agg #[.map (some m)],.agg (stC ⟨7,x,y,e,f,c,ags,at_⟩ pe pf pc Aa At Al na ca nt ct nl cl)] w fun e' w'=>e'= .returned (.bool (aB K ⟨7,x,y,e,f,c,ags,at_⟩))∧Below w.heap.size w w':=by
 have hR:=Rsv.start hK;obtain⟨w1,hw1⟩:∃y,y=w.alloc (.cells #[.map (some m)] 86):=⟨_,rfl⟩;rw[←hw1]at hR;obtain⟨w2,hw2⟩:∃z,z=w1.alloc (.cells (stC ⟨7,x,y,e,f,c,ags,at_⟩ pe pf pc Aa At Al na ca nt ct nl cl) 63):=⟨_,rfl⟩;have hs2:=Holds.new w1 63 (stC ⟨7,x,y,e,f,c,ags,at_⟩ pe pf pc Aa At Al na ca nt ct nl cl);rw[←hw2]at hs2
 have hb2:Below w1.heap.size w1 w2:=by rw[hw2];exact aA w1 _
 have hb1:Below w.heap.size w w1:=by rw[hw1];exact aA w _
 have hsz:w1.heap.size=w.heap.size+1:=by rw[hw1];simp
 obtain⟨r,hr⟩:∃y,y=w.heap.size:=⟨_,rfl⟩;rw[hsz,←hr]at hs2;rw[←hr]at hR;have hx:=H.x;have hy:=H.y;simp only at hx hy;have hS:Snd m K ⟨7,x,y,e,f,c,ags,at_⟩ pe pf pc Aa na ca (stC ⟨7,x,y,e,f,c,ags,at_⟩ pe pf pc Aa At Al na ca nt ct nl cl) r (r+1) w w2:=⟨hR.below hb2,hs2,(H.below hb1).below hb2⟩;have hfold:Hid ((w.alloc (.cells #[.map (some m)] 86)).alloc (.cells (stC ⟨7,x,y,e,f,c,ags,at_⟩ pe pf pc Aa At Al na ca nt ct nl cl) 63)=w2):=Za (by rw[hw2,hw1]);have hrB:=Za hr.symm;clear hw1 hw2 hs2 hb2 hb1 hsz hr hR H hK;unfold stC at hfold;unfold stC;go_enter Tryz.func42,Tryz.ntmps42;go_upto_region 1 with(fail);simp only at hfold;rw[show(((7:Nat):Int))=7 from rfl]at hfold;rw[hrB.out,hfold.out];clear hfold;obtain⟨qr,qrl,qsl,q0,q1,q2,q3,q4,q5,q6⟩:=hS.facts;simp only at q0 q1 q2;have hS1:=Za hS;clear hS;go_wp2_with fail;refine(iO _ m K hS1.out.rs.km y hy).mono ?_;rintro e1 w3 ⟨rfl,hb⟩;have hS:=hS1.out.below hb;clear hb hS1 q0 q1 q2 q3 q4 q5 q6 qr qrl qsl
 cases hp0:(K y==0)with
 |true=>
  have hq0:=hp0
  try simp at hq0
  clear hp0;obtain⟨qr,qrl,qsl,q0,q1,q2,q3,q4,q5,q6⟩:=hS.facts;simp only at q0 q1 q2;have hS1:=Za hS;clear hS;have hES:=kM.two 59 hS1.out.hd.e hS1.out.hd.f;simp only at hES;obtain⟨wl,hwl⟩:∃z,z=World.alloc w3 (.cells #[.pointer pe,.pointer pf] 59):=⟨_,rfl⟩;rw[←hwl]at hES;have hS:=hS1.out.below (by rw[hwl];exact aA _ _:Below (World.heap w3).size w3 wl);have hS2:=Za hS;have hES2:=Za hES;have hwl2:=Za hwl.symm;clear hS hES hwl;go_wp2_with fail;rw[hwl2.out];refine(jZ wl m K hS2.out.rs.km [e,f] _ 2 (by simp) hES2.out).mono ?_;rintro e1 w4 ⟨rfl,hb⟩;have hS:=hS2.out.below hb;have hfe:Hid ([e,f].all (bQ K)=(bQ K e&&bQ K f)):=Za (by simp);rw[hfe.out];clear hb hS1 hS2 hES2 hwl2 hfe q0 q1 q2 q3 q4 q5 q6 qr qrl qsl
  cases hp1:(bQ K e&&bQ K f)with
  |true=>
   have hq1:=hp1
   try simp at hq1
   clear hp1;obtain⟨qr,qrl,qsl,q0,q1,q2,q3,q4,q5,q6⟩:=hS.facts;simp only at q0 q1 q2;have hS1:=Za hS;clear hS;have hres:Hid (aB K ⟨7,x,y,e,f,c,ags,at_⟩=true):=Za (by first| (simp[aB, *];done)| (simp[aB, *];assumption));clear hq0 hq1;go_wp2_with fail;go_ret;exact⟨by rw[hres.out];rfl,hS1.out.rs.bl⟩
  |false=>
   have hq1:=hp1
   try simp at hq1
   clear hp1;obtain⟨qr,qrl,qsl,q0,q1,q2,q3,q4,q5,q6⟩:=hS.facts;simp only at q0 q1 q2;have hS1:=Za hS;clear hS;have hres:Hid (aB K ⟨7,x,y,e,f,c,ags,at_⟩=false):=Za (by first| (simp[aB, *];done)| (simp[aB, *];assumption));clear hq0 hq1;go_wp2_with fail;go_ret;exact⟨by rw[hres.out];rfl,hS1.out.rs.bl⟩
 |false=>
  have hq0:=hp0
  try simp at hq0
  clear hp0;obtain⟨qr,qrl,qsl,q0,q1,q2,q3,q4,q5,q6⟩:=hS.facts;simp only at q0 q1 q2;have hS1:=Za hS;clear hS;have hres:Hid (aB K ⟨7,x,y,e,f,c,ags,at_⟩=false):=Za (by first| (simp[aB, *];done)| (simp[aB, *];assumption));clear hq0;go_wp2_with fail;go_ret;exact⟨by rw[hres.out];rfl,hS1.out.rs.bl⟩
theorem CX (w:World) (m:Nat) (K:List UInt8→Nat) (hK:eX w m K) (x y:List UInt8) (e f:Ex) (c:Cn) (ags:List Ag) (at_:Nat) (pe pf pc:Option Addr) (Aa At Al:Option Addr) (na ca nt ct nl cl:Nat)
  (H:dn w Evr ⟨8,x,y,e,f,c,ags,at_⟩ (.pointer pe) (.pointer pf) (.pointer pc) (.slice Aa na ca)):
  Calls Tryz.prog 42 #[.agg #[.map (some m)],.agg (stC ⟨8,x,y,e,f,c,ags,at_⟩ pe pf pc Aa At Al na ca nt ct nl cl)] w fun e' w'=>e'= .returned (.bool (aB K ⟨8,x,y,e,f,c,ags,at_⟩))∧Below w.heap.size w w':=by
 have hR:=Rsv.start hK;obtain⟨w1,hw1⟩:∃y,y=w.alloc (.cells #[.map (some m)] 86):=⟨_,rfl⟩;rw[←hw1]at hR;obtain⟨w2,hw2⟩:∃z,z=w1.alloc (.cells (stC ⟨8,x,y,e,f,c,ags,at_⟩ pe pf pc Aa At Al na ca nt ct nl cl) 63):=⟨_,rfl⟩;have hs2:=Holds.new w1 63 (stC ⟨8,x,y,e,f,c,ags,at_⟩ pe pf pc Aa At Al na ca nt ct nl cl);rw[←hw2]at hs2
 have hb2:Below w1.heap.size w1 w2:=by rw[hw2];exact aA w1 _
 have hb1:Below w.heap.size w w1:=by rw[hw1];exact aA w _
 have hsz:w1.heap.size=w.heap.size+1:=by rw[hw1];simp
 obtain⟨r,hr⟩:∃y,y=w.heap.size:=⟨_,rfl⟩;rw[hsz,←hr]at hs2;rw[←hr]at hR;have hx:=H.x;have hy:=H.y;simp only at hx hy;have hS:Snd m K ⟨8,x,y,e,f,c,ags,at_⟩ pe pf pc Aa na ca (stC ⟨8,x,y,e,f,c,ags,at_⟩ pe pf pc Aa At Al na ca nt ct nl cl) r (r+1) w w2:=⟨hR.below hb2,hs2,(H.below hb1).below hb2⟩;have hfold:Hid ((w.alloc (.cells #[.map (some m)] 86)).alloc (.cells (stC ⟨8,x,y,e,f,c,ags,at_⟩ pe pf pc Aa At Al na ca nt ct nl cl) 63)=w2):=Za (by rw[hw2,hw1]);have hrB:=Za hr.symm;clear hw1 hw2 hs2 hb2 hb1 hsz hr hR H hK;unfold stC at hfold;unfold stC;go_enter Tryz.func42,Tryz.ntmps42;go_upto_region 1 with(fail);simp only at hfold;rw[show(((8:Nat):Int))=8 from rfl]at hfold;rw[hrB.out,hfold.out];clear hfold;obtain⟨qr,qrl,qsl,q0,q1,q2,q3,q4,q5,q6⟩:=hS.facts;simp only at q0 q1 q2;have hS1:=Za hS;clear hS;by_cases hxe:x= []
 ·have hxs:ay x=⟨#[]⟩:=by rw[hxe];rfl
  rw[hxs]at q1;go_wp2_with fail;refine(iO _ m K hS1.out.rs.km y hy).mono ?_;rintro e1 w3 ⟨rfl,hb⟩;have hS:=hS1.out.below hb;clear hb hS1 q0 q1 q2 q3 q4 q5 q6 qr qrl qsl
  cases hp0:(K y==0)with
  |true=>
   have hq0:=hp0
   try simp at hq0
   clear hp0;obtain⟨qr,qrl,qsl,q0,q1,q2,q3,q4,q5,q6⟩:=hS.facts;simp only at q0 q1 q2;have hS1:=Za hS;clear hS;go_wp2_with fail;refine(uh _ m K hS1.out.rs.km ags _ hS1.out.hd.a).mono ?_;rintro e1 w4 ⟨rfl,hb⟩;have hS:=hS1.out.below hb;clear hb hS1 q0 q1 q2 q3 q4 q5 q6 qr qrl qsl
   cases hp1:(ags.all (jE K))with
   |true=>
    have hq1:=hp1
    try simp at hq1
    clear hp1;obtain⟨qr,qrl,qsl,q0,q1,q2,q3,q4,q5,q6⟩:=hS.facts;simp only at q0 q1 q2;have hS1:=Za hS;clear hS;have hres:Hid (aB K ⟨8,x,y,e,f,c,ags,at_⟩=true):=Za (by first| (simp[aB, *];done)| (simp[aB, *];assumption));clear hxe hq0 hq1;go_wp2_with fail;go_ret;exact⟨by rw[hres.out];rfl,hS1.out.rs.bl⟩
   |false=>
    have hq1:=hp1
    try simp at hq1
    clear hp1;obtain⟨qr,qrl,qsl,q0,q1,q2,q3,q4,q5,q6⟩:=hS.facts;simp only at q0 q1 q2;have hS1:=Za hS;clear hS;have hres:Hid (aB K ⟨8,x,y,e,f,c,ags,at_⟩=false):=Za (by first| (simp[aB, *];done)| (simp[aB, *];assumption));clear hxe hq0 hq1;go_wp2_with fail;go_ret;exact⟨by rw[hres.out];rfl,hS1.out.rs.bl⟩
  |false=>
   have hq0:=hp0
   try simp at hq0
   clear hp0;obtain⟨qr,qrl,qsl,q0,q1,q2,q3,q4,q5,q6⟩:=hS.facts;simp only at q0 q1 q2;have hS1:=Za hS;clear hS;have hres:Hid (aB K ⟨8,x,y,e,f,c,ags,at_⟩=false):=Za (by first| (simp[aB, *];done)| (simp[aB, *];assumption));clear hxe hq0;go_wp2_with fail;go_ret;exact⟨by rw[hres.out];rfl,hS1.out.rs.bl⟩
 ·have hxs:¬(ay x).toList= []:=by rw[aH];exact hxe
  go_wp2_with fail;refine(bM _ m K hS1.out.rs.km x hx).mono ?_;rintro e1 w3 ⟨rfl,hb⟩;have hS:=hS1.out.below hb;clear hb hS1 q0 q1 q2 q3 q4 q5 q6 qr qrl qsl
  cases hp0:(K x==2)with
  |true=>
   have hq0:=hp0
   try simp at hq0
   clear hp0;obtain⟨qr,qrl,qsl,q0,q1,q2,q3,q4,q5,q6⟩:=hS.facts;simp only at q0 q1 q2;have hS1:=Za hS;clear hS;have hres:Hid (aB K ⟨8,x,y,e,f,c,ags,at_⟩=false):=Za (by first| (simp[aB, *];done)| (simp[aB, *];assumption));clear hxe hq0;go_wp2_with fail;go_ret;exact⟨by rw[hres.out];rfl,hS1.out.rs.bl⟩
  |false=>
   have hq0:=hp0
   try simp at hq0
   clear hp0;obtain⟨qr,qrl,qsl,q0,q1,q2,q3,q4,q5,q6⟩:=hS.facts;simp only at q0 q1 q2;have hS1:=Za hS;clear hS;go_wp2_with fail;refine(iO _ m K hS1.out.rs.km y hy).mono ?_;rintro e1 w4 ⟨rfl,hb⟩;have hS:=hS1.out.below hb;clear hb hS1 q0 q1 q2 q3 q4 q5 q6 qr qrl qsl
   cases hp1:(K y==0)with
   |true=>
    have hq1:=hp1
    try simp at hq1
    clear hp1;obtain⟨qr,qrl,qsl,q0,q1,q2,q3,q4,q5,q6⟩:=hS.facts;simp only at q0 q1 q2;have hS1:=Za hS;clear hS;go_wp2_with fail;refine(uh _ m K hS1.out.rs.km ags _ hS1.out.hd.a).mono ?_;rintro e1 w5 ⟨rfl,hb⟩;have hS:=hS1.out.below hb;clear hb hS1 q0 q1 q2 q3 q4 q5 q6 qr qrl qsl
    cases hp2:(ags.all (jE K))with
    |true=>
     have hq2:=hp2
     try simp at hq2
     clear hp2;obtain⟨qr,qrl,qsl,q0,q1,q2,q3,q4,q5,q6⟩:=hS.facts;simp only at q0 q1 q2;have hS1:=Za hS;clear hS;have hres:Hid (aB K ⟨8,x,y,e,f,c,ags,at_⟩=true):=Za (by first| (simp[aB, *];done)| (simp[aB, *];assumption));clear hxe hq0 hq1 hq2;go_wp2_with fail;go_ret;exact⟨by rw[hres.out];rfl,hS1.out.rs.bl⟩
    |false=>
     have hq2:=hp2
     try simp at hq2
     clear hp2;obtain⟨qr,qrl,qsl,q0,q1,q2,q3,q4,q5,q6⟩:=hS.facts;simp only at q0 q1 q2;have hS1:=Za hS;clear hS;have hres:Hid (aB K ⟨8,x,y,e,f,c,ags,at_⟩=false):=Za (by first| (simp[aB, *];done)| (simp[aB, *];assumption));clear hxe hq0 hq1 hq2;go_wp2_with fail;go_ret;exact⟨by rw[hres.out];rfl,hS1.out.rs.bl⟩
   |false=>
    have hq1:=hp1
    try simp at hq1
    clear hp1;obtain⟨qr,qrl,qsl,q0,q1,q2,q3,q4,q5,q6⟩:=hS.facts;simp only at q0 q1 q2;have hS1:=Za hS;clear hS;have hres:Hid (aB K ⟨8,x,y,e,f,c,ags,at_⟩=false):=Za (by first| (simp[aB, *];done)| (simp[aB, *];assumption));clear hxe hq0 hq1;go_wp2_with fail;go_ret;exact⟨by rw[hres.out];rfl,hS1.out.rs.bl⟩
theorem CW (w:World) (m:Nat) (K:List UInt8→Nat) (hK:eX w m K) (x y:List UInt8) (e f:Ex) (c:Cn) (ags:List Ag) (at_:Nat) (pe pf pc:Option Addr) (Aa At Al:Option Addr) (na ca nt ct nl cl:Nat)
  (H:dn w Evr ⟨9,x,y,e,f,c,ags,at_⟩ (.pointer pe) (.pointer pf) (.pointer pc) (.slice Aa na ca)):
  Calls Tryz.prog 42 #[.agg #[.map (some m)],.agg (stC ⟨9,x,y,e,f,c,ags,at_⟩ pe pf pc Aa At Al na ca nt ct nl cl)] w fun e' w'=>e'= .returned (.bool (aB K ⟨9,x,y,e,f,c,ags,at_⟩))∧Below w.heap.size w w':=by
 have hR:=Rsv.start hK;obtain⟨w1,hw1⟩:∃y,y=w.alloc (.cells #[.map (some m)] 86):=⟨_,rfl⟩;rw[←hw1]at hR;obtain⟨w2,hw2⟩:∃z,z=w1.alloc (.cells (stC ⟨9,x,y,e,f,c,ags,at_⟩ pe pf pc Aa At Al na ca nt ct nl cl) 63):=⟨_,rfl⟩;have hs2:=Holds.new w1 63 (stC ⟨9,x,y,e,f,c,ags,at_⟩ pe pf pc Aa At Al na ca nt ct nl cl);rw[←hw2]at hs2
 have hb2:Below w1.heap.size w1 w2:=by rw[hw2];exact aA w1 _
 have hb1:Below w.heap.size w w1:=by rw[hw1];exact aA w _
 have hsz:w1.heap.size=w.heap.size+1:=by rw[hw1];simp
 obtain⟨r,hr⟩:∃y,y=w.heap.size:=⟨_,rfl⟩;rw[hsz,←hr]at hs2;rw[←hr]at hR;have hx:=H.x;have hy:=H.y;simp only at hx hy;have hS:Snd m K ⟨9,x,y,e,f,c,ags,at_⟩ pe pf pc Aa na ca (stC ⟨9,x,y,e,f,c,ags,at_⟩ pe pf pc Aa At Al na ca nt ct nl cl) r (r+1) w w2:=⟨hR.below hb2,hs2,(H.below hb1).below hb2⟩;have hfold:Hid ((w.alloc (.cells #[.map (some m)] 86)).alloc (.cells (stC ⟨9,x,y,e,f,c,ags,at_⟩ pe pf pc Aa At Al na ca nt ct nl cl) 63)=w2):=Za (by rw[hw2,hw1]);have hrB:=Za hr.symm;clear hw1 hw2 hs2 hb2 hb1 hsz hr hR H hK;unfold stC at hfold;unfold stC;go_enter Tryz.func42,Tryz.ntmps42;go_upto_region 1 with(fail);simp only at hfold;rw[show(((9:Nat):Int))=9 from rfl]at hfold;rw[hrB.out,hfold.out];clear hfold;obtain⟨qr,qrl,qsl,q0,q1,q2,q3,q4,q5,q6⟩:=hS.facts;simp only at q0 q1 q2;have hS1:=Za hS;clear hS;have hES:=kM.one 59 hS1.out.hd.e;simp only at hES;obtain⟨wl,hwl⟩:∃z,z=World.alloc w2 (.cells #[.pointer pe] 59):=⟨_,rfl⟩;rw[←hwl]at hES;have hS:=hS1.out.below (by rw[hwl];exact aA _ _:Below (World.heap w2).size w2 wl);have hS2:=Za hS;have hES2:=Za hES
 have hwl2:=Za hwl.symm;clear hS hES hwl;go_wp2_with fail;rw[hwl2.out];refine(jZ wl m K hS2.out.rs.km [e] _ 1 (by simp) hES2.out).mono ?_;rintro e1 w3 ⟨rfl,hb⟩;have hS:=hS2.out.below hb;have hfe:Hid ([e].all (bQ K)=bQ K e):=Za (by simp);rw[hfe.out];clear hb hS1 hS2 hES2 hwl2 hfe q0 q1 q2 q3 q4 q5 q6 qr qrl qsl
 cases hp0:bQ K e with
 |true=>
  have hq0:=hp0
  try simp at hq0
  clear hp0;obtain⟨qr,qrl,qsl,q0,q1,q2,q3,q4,q5,q6⟩:=hS.facts;simp only at q0 q1 q2;have hS1:=Za hS;clear hS;have hres:Hid (aB K ⟨9,x,y,e,f,c,ags,at_⟩=true):=Za (by first| (simp[aB, *];done)| (simp[aB, *];assumption));clear hq0;go_wp2_with fail;go_ret;exact⟨by rw[hres.out];rfl,hS1.out.rs.bl⟩
 |false=>
  have hq0:=hp0
  try simp at hq0
  clear hp0;obtain⟨qr,qrl,qsl,q0,q1,q2,q3,q4,q5,q6⟩:=hS.facts;simp only at q0 q1 q2;have hS1:=Za hS;clear hS;have hres:Hid (aB K ⟨9,x,y,e,f,c,ags,at_⟩=false):=Za (by first| (simp[aB, *];done)| (simp[aB, *];assumption));clear hq0;go_wp2_with fail;go_ret;exact⟨by rw[hres.out];rfl,hS1.out.rs.bl⟩
theorem Az (w:World) (m:Nat) (K:List UInt8→Nat) (hK:eX w m K) (x y:List UInt8) (e f:Ex) (c:Cn) (ags:List Ag) (at_:Nat) (pe pf pc:Option Addr) (Aa At Al:Option Addr) (na ca nt ct nl cl:Nat)
  (H:dn w Evr ⟨10,x,y,e,f,c,ags,at_⟩ (.pointer pe) (.pointer pf) (.pointer pc) (.slice Aa na ca)):
  Calls Tryz.prog 42 #[.agg #[.map (some m)],.agg (stC ⟨10,x,y,e,f,c,ags,at_⟩ pe pf pc Aa At Al na ca nt ct nl cl)] w fun e' w'=>e'= .returned (.bool (aB K ⟨10,x,y,e,f,c,ags,at_⟩))∧Below w.heap.size w w':=by
 have hR:=Rsv.start hK;obtain⟨w1,hw1⟩:∃y,y=w.alloc (.cells #[.map (some m)] 86):=⟨_,rfl⟩;rw[←hw1]at hR;obtain⟨w2,hw2⟩:∃z,z=w1.alloc (.cells (stC ⟨10,x,y,e,f,c,ags,at_⟩ pe pf pc Aa At Al na ca nt ct nl cl) 63):=⟨_,rfl⟩;have hs2:=Holds.new w1 63 (stC ⟨10,x,y,e,f,c,ags,at_⟩ pe pf pc Aa At Al na ca nt ct nl cl);rw[←hw2]at hs2
 have hb2:Below w1.heap.size w1 w2:=by rw[hw2];exact aA w1 _
 have hb1:Below w.heap.size w w1:=by rw[hw1];exact aA w _
 have hsz:w1.heap.size=w.heap.size+1:=by rw[hw1];simp
 obtain⟨r,hr⟩:∃y,y=w.heap.size:=⟨_,rfl⟩;rw[hsz,←hr]at hs2;rw[←hr]at hR;have hx:=H.x;have hy:=H.y;simp only at hx hy;have hS:Snd m K ⟨10,x,y,e,f,c,ags,at_⟩ pe pf pc Aa na ca (stC ⟨10,x,y,e,f,c,ags,at_⟩ pe pf pc Aa At Al na ca nt ct nl cl) r (r+1) w w2:=⟨hR.below hb2,hs2,(H.below hb1).below hb2⟩;have hfold:Hid ((w.alloc (.cells #[.map (some m)] 86)).alloc (.cells (stC ⟨10,x,y,e,f,c,ags,at_⟩ pe pf pc Aa At Al na ca nt ct nl cl) 63)=w2):=Za (by rw[hw2,hw1]);have hrB:=Za hr.symm;clear hw1 hw2 hs2 hb2 hb1 hsz hr hR H hK;unfold stC at hfold;unfold stC;go_enter Tryz.func42,Tryz.ntmps42;go_upto_region 1 with(fail);simp only at hfold;rw[show(((10:Nat):Int))=10 from rfl]at hfold;rw[hrB.out,hfold.out];clear hfold;obtain⟨qr,qrl,qsl,q0,q1,q2,q3,q4,q5,q6⟩:=hS.facts;simp only at q0 q1 q2;have hS1:=Za hS;clear hS;go_wp2_with fail;refine(oN _ m K hS1.out.rs.km c _ hS1.out.hd.c).mono ?_;rintro e1 w3 ⟨rfl,hb⟩;have hS:=hS1.out.below hb;clear hb hS1 q0 q1 q2 q3 q4 q5 q6 qr qrl qsl
 cases hp0:kG K c with
 |true=>
  have hq0:=hp0
  try simp at hq0
  clear hp0;obtain⟨qr,qrl,qsl,q0,q1,q2,q3,q4,q5,q6⟩:=hS.facts;simp only at q0 q1 q2;have hS1:=Za hS;clear hS;have hres:Hid (aB K ⟨10,x,y,e,f,c,ags,at_⟩=true):=Za (by first| (simp[aB, *];done)| (simp[aB, *];assumption));clear hq0;go_wp2_with fail;go_ret;exact⟨by rw[hres.out];rfl,hS1.out.rs.bl⟩
 |false=>
  have hq0:=hp0
  try simp at hq0
  clear hp0;obtain⟨qr,qrl,qsl,q0,q1,q2,q3,q4,q5,q6⟩:=hS.facts;simp only at q0 q1 q2;have hS1:=Za hS;clear hS;have hres:Hid (aB K ⟨10,x,y,e,f,c,ags,at_⟩=false):=Za (by first| (simp[aB, *];done)| (simp[aB, *];assumption));clear hq0;go_wp2_with fail;go_ret;exact⟨by rw[hres.out];rfl,hS1.out.rs.bl⟩
theorem Aw (w:World) (m:Nat) (K:List UInt8→Nat) (hK:eX w m K) (x y:List UInt8) (e f:Ex) (c:Cn) (ags:List Ag) (at_:Nat) (pe pf pc:Option Addr) (Aa At Al:Option Addr) (na ca nt ct nl cl:Nat)
  (H:dn w Evr ⟨11,x,y,e,f,c,ags,at_⟩ (.pointer pe) (.pointer pf) (.pointer pc) (.slice Aa na ca)):
  Calls Tryz.prog 42 #[.agg #[.map (some m)],.agg (stC ⟨11,x,y,e,f,c,ags,at_⟩ pe pf pc Aa At Al na ca nt ct nl cl)] w fun e' w'=>e'= .returned (.bool (aB K ⟨11,x,y,e,f,c,ags,at_⟩))∧Below w.heap.size w w':=by
 have hR:=Rsv.start hK;obtain⟨w1,hw1⟩:∃y,y=w.alloc (.cells #[.map (some m)] 86):=⟨_,rfl⟩;rw[←hw1]at hR;obtain⟨w2,hw2⟩:∃z,z=w1.alloc (.cells (stC ⟨11,x,y,e,f,c,ags,at_⟩ pe pf pc Aa At Al na ca nt ct nl cl) 63):=⟨_,rfl⟩;have hs2:=Holds.new w1 63 (stC ⟨11,x,y,e,f,c,ags,at_⟩ pe pf pc Aa At Al na ca nt ct nl cl);rw[←hw2]at hs2
 have hb2:Below w1.heap.size w1 w2:=by rw[hw2];exact aA w1 _
 have hb1:Below w.heap.size w w1:=by rw[hw1];exact aA w _
 have hsz:w1.heap.size=w.heap.size+1:=by rw[hw1];simp
 obtain⟨r,hr⟩:∃y,y=w.heap.size:=⟨_,rfl⟩;rw[hsz,←hr]at hs2;rw[←hr]at hR;have hx:=H.x;have hy:=H.y;simp only at hx hy;have hS:Snd m K ⟨11,x,y,e,f,c,ags,at_⟩ pe pf pc Aa na ca (stC ⟨11,x,y,e,f,c,ags,at_⟩ pe pf pc Aa At Al na ca nt ct nl cl) r (r+1) w w2:=⟨hR.below hb2,hs2,(H.below hb1).below hb2⟩;have hfold:Hid ((w.alloc (.cells #[.map (some m)] 86)).alloc (.cells (stC ⟨11,x,y,e,f,c,ags,at_⟩ pe pf pc Aa At Al na ca nt ct nl cl) 63)=w2):=Za (by rw[hw2,hw1]);have hrB:=Za hr.symm;clear hw1 hw2 hs2 hb2 hb1 hsz hr hR H hK;unfold stC at hfold;unfold stC;go_enter Tryz.func42,Tryz.ntmps42;go_upto_region 1 with(fail);simp only at hfold;rw[show(((11:Nat):Int))=11 from rfl]at hfold;rw[hrB.out,hfold.out];clear hfold;obtain⟨qr,qrl,qsl,q0,q1,q2,q3,q4,q5,q6⟩:=hS.facts;simp only at q0 q1 q2;have hS1:=Za hS;clear hS;go_wp2_with fail;refine(oN _ m K hS1.out.rs.km c _ hS1.out.hd.c).mono ?_;rintro e1 w3 ⟨rfl,hb⟩;have hS:=hS1.out.below hb;clear hb hS1 q0 q1 q2 q3 q4 q5 q6 qr qrl qsl
 cases hp0:kG K c with
 |true=>
  have hq0:=hp0
  try simp at hq0
  clear hp0;obtain⟨qr,qrl,qsl,q0,q1,q2,q3,q4,q5,q6⟩:=hS.facts;simp only at q0 q1 q2;have hS1:=Za hS;clear hS;have hres:Hid (aB K ⟨11,x,y,e,f,c,ags,at_⟩=true):=Za (by first| (simp[aB, *];done)| (simp[aB, *];assumption));clear hq0;go_wp2_with fail;go_ret;exact⟨by rw[hres.out];rfl,hS1.out.rs.bl⟩
 |false=>
  have hq0:=hp0
  try simp at hq0
  clear hp0;obtain⟨qr,qrl,qsl,q0,q1,q2,q3,q4,q5,q6⟩:=hS.facts;simp only at q0 q1 q2;have hS1:=Za hS;clear hS;have hres:Hid (aB K ⟨11,x,y,e,f,c,ags,at_⟩=false):=Za (by first| (simp[aB, *];done)| (simp[aB, *];assumption));clear hq0;go_wp2_with fail;go_ret;exact⟨by rw[hres.out];rfl,hS1.out.rs.bl⟩
theorem Au (w:World) (m:Nat) (K:List UInt8→Nat) (hK:eX w m K) (x y:List UInt8) (e f:Ex) (c:Cn) (ags:List Ag) (at_:Nat) (pe pf pc:Option Addr) (Aa At Al:Option Addr) (na ca nt ct nl cl:Nat)
  (H:dn w Evr ⟨12,x,y,e,f,c,ags,at_⟩ (.pointer pe) (.pointer pf) (.pointer pc) (.slice Aa na ca)):
  Calls Tryz.prog 42 #[.agg #[.map (some m)],.agg (stC ⟨12,x,y,e,f,c,ags,at_⟩ pe pf pc Aa At Al na ca nt ct nl cl)] w fun e' w'=>e'= .returned (.bool (aB K ⟨12,x,y,e,f,c,ags,at_⟩))∧Below w.heap.size w w':=by
 have hR:=Rsv.start hK;obtain⟨w1,hw1⟩:∃y,y=w.alloc (.cells #[.map (some m)] 86):=⟨_,rfl⟩;rw[←hw1]at hR;obtain⟨w2,hw2⟩:∃z,z=w1.alloc (.cells (stC ⟨12,x,y,e,f,c,ags,at_⟩ pe pf pc Aa At Al na ca nt ct nl cl) 63):=⟨_,rfl⟩;have hs2:=Holds.new w1 63 (stC ⟨12,x,y,e,f,c,ags,at_⟩ pe pf pc Aa At Al na ca nt ct nl cl);rw[←hw2]at hs2
 have hb2:Below w1.heap.size w1 w2:=by rw[hw2];exact aA w1 _
 have hb1:Below w.heap.size w w1:=by rw[hw1];exact aA w _
 have hsz:w1.heap.size=w.heap.size+1:=by rw[hw1];simp
 obtain⟨r,hr⟩:∃y,y=w.heap.size:=⟨_,rfl⟩;rw[hsz,←hr]at hs2;rw[←hr]at hR;have hx:=H.x;have hy:=H.y;simp only at hx hy;have hS:Snd m K ⟨12,x,y,e,f,c,ags,at_⟩ pe pf pc Aa na ca (stC ⟨12,x,y,e,f,c,ags,at_⟩ pe pf pc Aa At Al na ca nt ct nl cl) r (r+1) w w2:=⟨hR.below hb2,hs2,(H.below hb1).below hb2⟩;have hfold:Hid ((w.alloc (.cells #[.map (some m)] 86)).alloc (.cells (stC ⟨12,x,y,e,f,c,ags,at_⟩ pe pf pc Aa At Al na ca nt ct nl cl) 63)=w2):=Za (by rw[hw2,hw1]);have hrB:=Za hr.symm;clear hw1 hw2 hs2 hb2 hb1 hsz hr hR H hK;unfold stC at hfold;unfold stC;go_enter Tryz.func42,Tryz.ntmps42;go_upto_region 1 with(fail);simp only at hfold;rw[show(((12:Nat):Int))=12 from rfl]at hfold;rw[hrB.out,hfold.out];clear hfold;obtain⟨qr,qrl,qsl,q0,q1,q2,q3,q4,q5,q6⟩:=hS.facts;simp only at q0 q1 q2;have hS1:=Za hS;clear hS;go_wp2_with fail;refine(oN _ m K hS1.out.rs.km c _ hS1.out.hd.c).mono ?_;rintro e1 w3 ⟨rfl,hb⟩;have hS:=hS1.out.below hb;clear hb hS1 q0 q1 q2 q3 q4 q5 q6 qr qrl qsl
 cases hp0:kG K c with
 |true=>
  have hq0:=hp0
  try simp at hq0
  clear hp0;obtain⟨qr,qrl,qsl,q0,q1,q2,q3,q4,q5,q6⟩:=hS.facts;simp only at q0 q1 q2;have hS1:=Za hS;clear hS;have hres:Hid (aB K ⟨12,x,y,e,f,c,ags,at_⟩=true):=Za (by first| (simp[aB, *];done)| (simp[aB, *];assumption));clear hq0;go_wp2_with fail;go_ret;exact⟨by rw[hres.out];rfl,hS1.out.rs.bl⟩
 |false=>
  have hq0:=hp0
  try simp at hq0
  clear hp0;obtain⟨qr,qrl,qsl,q0,q1,q2,q3,q4,q5,q6⟩:=hS.facts;simp only at q0 q1 q2;have hS1:=Za hS;clear hS;have hres:Hid (aB K ⟨12,x,y,e,f,c,ags,at_⟩=false):=Za (by first| (simp[aB, *];done)| (simp[aB, *];assumption));clear hq0;go_wp2_with fail;go_ret;exact⟨by rw[hres.out];rfl,hS1.out.rs.bl⟩
def Sl.dep:Sl→Nat
 | .nil=>0
 | .cons _ t e r=>max (max (t.dep+1) (e.dep+1)) r.dep
def vis {σ:Type} (d:σ→Hd→σ×Bool):σ→Sl→σ×Bool
 |s,.nil=>(s,true)
 |s,.cons h t e r=>if (d s h).2 then(if (vis d (d s h).1 t).2 then(if (vis d (vis d (d s h).1 t).1 e).2 then vis d (vis d (vis d (d s h).1 t).1 e).1 r else((vis d (vis d (d s h).1 t).1 e).1,false))else((vis d (d s h).1 t).1,false))else((d s h).1,false)
structure FC (k:Nat) (first cap:Array Value) (M:List (Option Nat)) {σ:Type} (I:σ→World→Prop) (d:σ→Hd→σ×Bool):Prop where
 ent:∀args w,(callFunc k args).run Tryz.prog w= .ok (.enter k args) w
 call:∀s h w pe pf pc Aa At Al na ca nt ct nl cl,dn w (bF M) h (.pointer pe) (.pointer pf) (.pointer pc) (.slice Aa na ca)→I s w→
  Calls Tryz.prog k (first++ #[.agg (stC h pe pf pc Aa At Al na ca nt ct nl cl)]++cap) w fun e w'=>e= .returned (.bool (d s h).2)∧I (d s h).1 w'∧Writes M w w'
 keep:∀s w w',I s w→Below w.heap.size w w'→I s w'
 low:∀s w g,I s w→some g∈M→g<w.heap.size
structure dQ (w:World) (S:Nat→Prop) (A:Option Addr) (k:Nat) (l:Sl) (us:List Value):Prop where
 cs:aN w S l us
 row:us≠[]→∃b off,A=some ⟨b,off,none⟩∧S b∧∀j u,us[j]? =some u→w.cell? ⟨b,off+(k*10+j),none⟩=some u
theorem lt_of_cell {w:World} {b o:Nat} {v:Value} (h:w.cell? ⟨b,o,none⟩=some v):b<w.heap.size:=by
 rcases Nat.lt_or_ge b w.heap.size with h1|h1
 ·exact h1
 ·simp[World.cell?,Array.getElem?_eq_none h1]at h
theorem bC.vp {w:World} {S:Nat→Prop} {e:Cn} {v:Value} (h:bC w S e v):∃p,v= .pointer p:=by
 cases e with
 |nil=>exact⟨_,h⟩
 |mk=>obtain⟨g,_,_,_,_,e,_⟩:=h;exact⟨_,e⟩
theorem aQ.wr {w w':World} {M:List (Option Nat)} {l:Sl} {v:Value} (h:aQ w (bF M) l v) (hW:Writes M w w'):aQ w' (bF M) l v:=h.keep fun x hx hS=>hW.block x hx hS
section
variable {w w':World} {S:Nat→Prop} {A:Option Addr} {k:Nat} {l t e r:Sl} {h:Hd} {us:List Value} {M:List (Option Nat)} {v:Value}
theorem dQ.wr (H:dQ w (bF M) A k l us) (hW:Writes M w w'):dQ w' (bF M) A k l us:=by
 refine⟨H.cs.keep fun x hx hS=>hW.block x hx hS,fun hne=> ?_⟩;obtain⟨b,off,e,hS,hc⟩:=H.row hne;refine⟨b,off,e,hS,fun j u hu=> ?_⟩;have h1:=hc j u hu;have hb:b<w.heap.size:=lt_of_cell h1;rw[←h1];exact World.cell?_of_block (hW.block b hb hS)
theorem aQ.rest (h:aQ w S l v):∃A c us,v= .slice A l.len c∧l.len≤100000∧l.len≤c∧dQ w S A 0 l us:=by
 obtain⟨A,c,us,e,h1,h2,hr,hc⟩:=h
 exact⟨A,c,us,e,h1,h2,hc,fun hne=>by
  obtain⟨b,off,e,hS,hc⟩:=hr hne
  exact⟨b,off,e,hS,fun j u hu=>by have:=hc j u hu;rw[Nat.zero_mul,Nat.zero_add];exact this⟩⟩
theorem dQ.next (H:dQ w S A k (.cons h t e r) us):∃b off pe pf pc Aa ca At ct Al cl us',A=some ⟨b,off,none⟩∧
  dn w S h (.pointer pe) (.pointer pf) (.pointer pc) (.slice Aa h.args.length ca)∧aQ w S t (.slice At t.len ct)∧aQ w S e (.slice Al e.len cl)∧
  (∀j (hj:j<10),w.cell? ⟨b,off+k*10+j,none⟩=some ((stC h pe pf pc Aa At Al h.args.length ca t.len ct e.len cl)[j]'hj))∧dQ w S A (k+1) r us':=by
 obtain⟨hc,hr⟩:=H;obtain⟨ve,vf,vc,va,vt,vl,vs',rfl,hh,ht,he,hrest⟩:=hc;obtain⟨b,off,hA,hS,hcell⟩:=hr (by simp[Hd.cells]);obtain⟨pe,rfl⟩:=hh.e.vp;obtain⟨pf,rfl⟩:=hh.f.vp;obtain⟨pc,rfl⟩:=hh.c.vp;obtain⟨Aa,ca,vas,rfl,a1,a2,a3,a4⟩:=hh.a;obtain⟨At,ct,ts,rfl,t1,t2,t3,t4⟩:=ht;obtain⟨Al,cl,es,rfl,e1,e2,e3,e4⟩:=he;refine⟨b,off,pe,pf,pc,Aa,ca,At,ct,Al,cl,vs',hA,hh,⟨At,ct,ts,rfl,t1,t2,t3,t4⟩,⟨Al,cl,es,rfl,e1,e2,e3,e4⟩,fun j hj=> ?_,hrest,fun hne=>⟨b,off,hA,hS,fun j u hu=> ?_⟩⟩
 ·rw[Nat.add_assoc];refine hcell j _ ?_;rw[List.getElem?_append_left (by simp[Hd.cells];omega)];show(Hd.cells h _ _ _ _ _ _).toList[j]? =_;rw[Array.getElem?_toList];exact Array.getElem?_eq_getElem (xs:=stC h pe pf pc Aa At Al h.args.length ca t.len ct e.len cl) hj
 ·have:=hcell (10+j) u (by rw[List.getElem?_append_right (by simp[Hd.cells])];simpa[Hd.cells]using hu);rw[Nat.add_mul,Nat.one_mul,Nat.add_assoc];exact this
end
structure Vis (m:Option Nat) (M:List (Option Nat)) (gv:Nat) (w0 w:World):Prop where
 hv:Holds w gv 83 #[.map m]
 gm:bF M gv
 wr:Writes M w0 w
theorem Vis.wr_ {m:Option Nat} {M:List (Option Nat)} {gv:Nat} {w0 w w':World} (h:Vis m M gv w0 w) (hW:Writes M w w'):Vis m M gv w0 w':=⟨hW.holds h.hv h.gm,h.gm,h.wr.trans hW⟩
theorem Vis.facts {m:Option Nat} {M:List (Option Nat)} {gv:Nat} {w0 w:World} (h:Vis m M gv w0 w):w.cell? ⟨gv,0,none⟩=some (.map m)∧gv<w.heap.size:=⟨h.hv.cell 0,h.hv.lt⟩
theorem yC {kf:Nat} {first cap:Array Value} {M:List (Option Nat)} {σ:Type} {I:σ→World→Prop} {d:σ→Hd→σ×Bool} (hk:FC kf first cap M I d) (m:Option Nat):∀(N:Nat) (l:Sl),l.dep≤N→∀(w:World) (s:σ) (v:Value),aQ w (bF M) l v→I s w→
  Calls Tryz.prog 40 #[.agg #[.map m],v,.func (.func kf) first cap] w fun e' w'=>e'= .returned (.bool (vis d s l).2)∧I (vis d s l).1 w'∧Writes M w w':=by
 intro N
 induction N using Nat.strongRecOn with
 |_ N ih=>
 intro l hN w s v hv hI;obtain⟨A,c,us,e,hlen,hlc,hR⟩:=hv.rest;subst e;obtain⟨w1,hw1⟩:∃y,y=w.alloc (.cells #[.map m] 83):=⟨_,rfl⟩;obtain⟨gv,hgv⟩:∃y,y=w.heap.size:=⟨_,rfl⟩
 have hb1:Below w.heap.size w w1:=by rw[hw1];exact aA w _
 have hv1:Holds w1 gv 83 #[.map m]:=by rw[hw1,hgv];exact Holds.new w _ _
 have hgM:bF M gv:=fun hm=>by have:=hk.low s w gv hI hm;omega
 have hV1:Hid (Vis m M gv w w1):=Za ⟨hv1,hgM,Writes.of_below hb1 M⟩;have hI1:=Za (hk.keep s w _ hI hb1);have hR1:=Za (hR.wr (Writes.of_below hb1 M));obtain⟨R,hRe⟩:∃R,R=vis d s l:=⟨_,rfl⟩;obtain⟨n,hn⟩:∃y,y=l.len:=⟨_,rfl⟩;rw[←hRe];rw[←hn]at hlen hlc⊢;have hfold:=Za hw1.symm;have tq:=Za hgv.symm;have hih:=Za ih;have hR0:Hid (vis d s l=R):=Za hRe.symm;have hn0:Hid (0+l.len=n):=Za (by rw[hn];simp);have hN':Hid (l.dep≤N):=Za hN;have hent:=hk.ent;clear hw1 hgv hb1 hv1 hI hv hR hRe hn ih hgM hN;go_enter Tryz.func40,Tryz.ntmps40;go_upto_region 1 with(fail);rw[tq.out,hfold.out];clear hfold tq;go_wp2_with fail;go_loopw [11] (fun i wl=>∃(k:Nat) (ls:Sl) (ss:σ) (vs:List Value),k≤n∧i= .int .i64 k∧Hid (dQ wl (bF M) A k ls vs)∧Hid (vis d ss ls=R)∧Hid (I ss wl)∧Hid (Vis m M gv w wl)∧Hid (k+ls.len=n)∧Hid (ls.dep≤N)) (fun i _=>n-(intOf i).toNat)
 case atStart=>exact⟨0,l,s,us,by omega,rfl,hR1,hR0,hI1,hV1,hn0,hN'⟩
 clear hR1 hR0 hI1 hV1 hn0 hN';obtain⟨k,ls,ss,vs,hkn,rfl,hR,hRe,hI,hV,hln,hdp⟩:=hrel;rename World=>wl
 cases ls with
 |nil=>
  have hkn2:k=n:=by have:=hln.out;simp[Sl.len]at this;exact this
  have hF:Hid (R=(ss,true)):=Za (by rw[←hRe.out];rfl);subst hkn2;clear hR hRe;go_wp2_with fail;go_ret;exact⟨by rw[hF.out];rfl,by rw[hF.out];exact hI.out,hV.out.wr⟩
 |cons h t e r=>
  have hlt:k<n:=by have:=hln.out;simp only[Sl.len]at this;omega
  obtain⟨b,off,pe,pf,pc,Aa,ca,At,ct,Al,cl,us',hA,hh,ht,he,hc,hrest⟩:=hR.out.next;subst hA;have q0:wl.cell? ⟨b,off+k*10,none⟩=some (.int .i64 h.k):=hc 0 (by decide);have q1:wl.cell? ⟨b,off+k*10+1,none⟩=some (.string (ay h.x)):=hc 1 (by decide);have q2:wl.cell? ⟨b,off+k*10+2,none⟩=some (.string (ay h.y)):=hc 2 (by decide);have q3:wl.cell? ⟨b,off+k*10+3,none⟩=some (.pointer pe):=hc 3 (by decide);have q4:wl.cell? ⟨b,off+k*10+4,none⟩=some (.pointer pf):=hc 4 (by decide);have q5:wl.cell? ⟨b,off+k*10+5,none⟩=some (.pointer pc):=hc 5 (by decide);have q6:wl.cell? ⟨b,off+k*10+6,none⟩=some (.slice Aa h.args.length ca):=hc 6 (by decide);have q7:wl.cell? ⟨b,off+k*10+7,none⟩=some (.slice At t.len ct):=hc 7 (by decide);have q8:wl.cell? ⟨b,off+k*10+8,none⟩=some (.slice Al e.len cl):=hc 8 (by decide);have q9:wl.cell? ⟨b,off+k*10+9,none⟩=some (.int .i64 h.at_):=hc 9 (by decide);obtain⟨qv,qvl⟩:=hV.out.facts;have hdt:Hid (t.dep<N∧e.dep<N∧r.dep≤N):=Za (by have:=hdp.out;unfold Sl.dep at this;omega)
  have hrl:Hid (k+1+r.len=n):=Za (by have:=hln.out;simp only[Sl.len]at this;omega);obtain⟨wn,hwn⟩:∃y,y=wl.alloc (.cells #[.int .i64 h.k,.string (ay h.x),.string (ay h.y),.pointer pe,.pointer pf,.pointer pc,.slice Aa h.args.length ca,.slice At t.len ct,.slice Al e.len cl,.int .i64 h.at_] 63):=⟨_,rfl⟩;obtain⟨gs,hgs⟩:∃y,y=wl.heap.size:=⟨_,rfl⟩
  have hbn:Below wl.heap.size wl wn:=by rw[hwn];exact aA wl _
  have hHs:Holds wn gs 63 (stC h pe pf pc Aa At Al h.args.length ca t.len ct e.len cl):=by rw[hwn,hgs];exact Holds.new wl _ _
  have DZ:bF M gs:=fun hm=>by have:=hk.low ss wl gs hI.out hm;omega
  have hWn:=Writes.of_below hbn M;have hVn:=Za (hV.out.wr_ hWn);have hIn:=Za (hk.keep ss wl _ hI.out hbn);have hhn:=Za (hh.below hbn);have htn:=Za (ht.below hbn);have hen:=Za (he.below hbn);have hrn:=Za (hrest.wr hWn);have hHn:=Za hHs;have hfo:=Za hwn.symm;have hgs':=Za hgs.symm;have xG:=Za DZ;have hF:Hid (vis d ss (.cons h t e r)=R):=hRe;clear hR hRe hI hV hln hdp hc hrest hwn hgs hbn hHs DZ hWn hh ht he;go_upto_region 4 with(fail);rw[hgs'.out,hfo.out];clear hfo hgs' q0 q1 q2 q3 q4 q5 q6 q7 q8 q9 qv qvl;have q0:wn.cell? ⟨gs,0,none⟩=some (.int .i64 h.k):=hHn.out.cell 0;have q1:wn.cell? ⟨gs,1,none⟩=some (.string (ay h.x)):=hHn.out.cell 1;have q2:wn.cell? ⟨gs,2,none⟩=some (.string (ay h.y)):=hHn.out.cell 2;have q3:wn.cell? ⟨gs,3,none⟩=some (.pointer pe):=hHn.out.cell 3;have q4:wn.cell? ⟨gs,4,none⟩=some (.pointer pf):=hHn.out.cell 4;have q5:wn.cell? ⟨gs,5,none⟩=some (.pointer pc):=hHn.out.cell 5;have q6:wn.cell? ⟨gs,6,none⟩=some (.slice Aa h.args.length ca):=hHn.out.cell 6;have q7:wn.cell? ⟨gs,7,none⟩=some (.slice At t.len ct):=hHn.out.cell 7
  have q8:wn.cell? ⟨gs,8,none⟩=some (.slice Al e.len cl):=hHn.out.cell 8;have q9:wn.cell? ⟨gs,9,none⟩=some (.int .i64 h.at_):=hHn.out.cell 9;have qs:=hHn.out.lt;obtain⟨qv,qvl⟩:=hVn.out.facts;go_wp2_with fail;refine(hk.call ss h wn pe pf pc Aa At Al h.args.length ca t.len ct e.len cl hhn.out hIn.out).mono ?_;rintro e0 w3 ⟨rfl,hI3,hW3⟩;have hH3:=hW3.holds hHn.out xG.out;have hV3:=hVn.out.wr_ hW3;clear q0 q1 q2 q3 q4 q5 q6 q7 q8 q9 qs qv qvl;have q7:w3.cell? ⟨gs,7,none⟩=some (.slice At t.len ct):=hH3.cell 7;have qs:=hH3.lt;obtain⟨qv,qvl⟩:=hV3.facts;have hI3:=Za hI3;have ht3:=Za (htn.out.wr hW3);have he3:=Za (hen.out.wr hW3);have hr3:=Za (hrn.out.wr hW3);have hH3':=Za hH3;have hV3':=Za hV3;clear hH3 hV3 hW3 hHn hVn hIn hhn htn hen hrn;obtain⟨s1,hs1⟩:∃y,y=(d ss h).1:=⟨_,rfl⟩;rw[←hs1]at hI3
  cases hb1:(d ss h).2 with
  |false=>
   have hR1:Hid (R=(s1,false)):=Za (by rw[←hF.out];unfold vis;rw[if_neg (by rw[hb1];simp),hs1]);clear hF hs1 hb1 ht3 he3 hr3 hH3';go_wp2_with fail;go_ret;exact⟨by rw[hR1.out];rfl,by rw[hR1.out];exact hI3.out,hV3'.out.wr⟩
  |true=>
   have hF1:Hid ((if (vis d s1 t).2 then(if (vis d (vis d s1 t).1 e).2 then vis d (vis d (vis d s1 t).1 e).1 r else((vis d (vis d s1 t).1 e).1,false))else((vis d s1 t).1,false))=R):=Za (by
    rw[←hF.out]
    conv=>rhs;unfold vis
    rw[if_pos hb1,hs1])
   replace hs1:=Za hs1;clear hF hb1;go_wp2_with fail;refine(hih.out t.dep hdt.out.1 t (Nat.le_refl _) w3 s1 _ ht3.out hI3.out).mono ?_;rintro e1 w4 ⟨rfl,hI4,hW4⟩;have hH4:=hW4.holds hH3'.out xG.out;have hV4:=hV3'.out.wr_ hW4;clear q7 qs qv qvl;have q8:w4.cell? ⟨gs,8,none⟩=some (.slice Al e.len cl):=hH4.cell 8;have qs:=hH4.lt;obtain⟨qv,qvl⟩:=hV4.facts;have hI4:=Za hI4;have he4:=Za (he3.out.wr hW4);have hr4:=Za (hr3.out.wr hW4);have hH4':=Za hH4;have hV4':=Za hV4;clear hH4 hV4 hW4 hH3' hV3' hI3 ht3 he3 hr3;obtain⟨s2,hs2⟩:∃y,y=(vis d s1 t).1:=⟨_,rfl⟩;rw[←hs2]at hI4
   cases hb2:(vis d s1 t).2 with
   |false=>
    have hR1:Hid (R=(s2,false)):=Za (by rw[←hF1.out,if_neg (by rw[hb2];simp),hs2]);clear hF1 hs2 hb2 he4 hr4 hH4';go_wp2_with fail;go_ret;exact⟨by rw[hR1.out];rfl,by rw[hR1.out];exact hI4.out,hV4'.out.wr⟩
   |true=>
    have hF2:Hid ((if (vis d s2 e).2 then vis d (vis d s2 e).1 r else((vis d s2 e).1,false))=R):=Za (by rw[←hF1.out,if_pos hb2,hs2])
    replace hs2:=Za hs2;clear hF1 hb2;go_wp2_with fail;refine(hih.out e.dep hdt.out.2.1 e (Nat.le_refl _) w4 s2 _ he4.out hI4.out).mono ?_;rintro e2 w5 ⟨rfl,hI5,hW5⟩;have hV5:=Za (hV4'.out.wr_ hW5);have hI5:=Za hI5;have hr5:=Za (hr4.out.wr hW5);clear q8 qs qv qvl hW5 hH4' hV4' hI4 he4 hr4;obtain⟨s3,hs3⟩:∃y,y=(vis d s2 e).1:=⟨_,rfl⟩;rw[←hs3]at hI5
    cases hb3:(vis d s2 e).2 with
    |false=>
     have hR1:Hid (R=(s3,false)):=Za (by rw[←hF2.out,if_neg (by rw[hb3];simp),hs3]);clear hF2 hs3 hb3 hr5;go_wp2_with fail;go_ret;exact⟨by rw[hR1.out];rfl,by rw[hR1.out];exact hI5.out,hV5.out.wr⟩
    |true=>
     have hF3:Hid (vis d s3 r=R):=Za (by rw[←hF2.out,if_pos hb3,hs3]);clear hF2 hb3 hs3;go_wp2_with fail;exact⟨⟨k+1,r,s3,us',by omega,by simp,hr5,hF3,hI5,hV5,hrl,Za hdt.out.2.2⟩,by simp[intOf];omega⟩
theorem AB (w:World) (m:Nat) (K:List UInt8→Nat) (hK:eX w m K) (h:Hd) (pe pf pc:Option Addr) (Aa At Al:Option Addr) (na ca nt ct nl cl:Nat)
  (H:dn w Evr h (.pointer pe) (.pointer pf) (.pointer pc) (.slice Aa na ca)):
  Calls Tryz.prog 42 #[.agg #[.map (some m)],.agg (stC h pe pf pc Aa At Al na ca nt ct nl cl)] w fun e' w'=>e'= .returned (.bool (aB K h))∧Below w.heap.size w w':=by
 have hk:=H.k;obtain⟨k,x,y,e,f,c,ags,at_⟩:=h;simp only at hk
 match k,hk with
 |0,_=>exact Di w m K hK x y e f c ags at_ pe pf pc Aa At Al na ca nt ct nl cl H
 |1,_=>exact Dh w m K hK x y e f c ags at_ pe pf pc Aa At Al na ca nt ct nl cl H
 |2,_=>exact Df w m K hK x y e f c ags at_ pe pf pc Aa At Al na ca nt ct nl cl H
 |3,_=>exact Dc w m K hK x y e f c ags at_ pe pf pc Aa At Al na ca nt ct nl cl H
 |4,_=>exact C_ w m K hK x y e f c ags at_ pe pf pc Aa At Al na ca nt ct nl cl H
 |5,_=>exact C9 w m K hK x y e f c ags at_ pe pf pc Aa At Al na ca nt ct nl cl H
 |6,_=>exact CZ w m K hK x y e f c ags at_ pe pf pc Aa At Al na ca nt ct nl cl H
 |7,_=>exact CY w m K hK x y e f c ags at_ pe pf pc Aa At Al na ca nt ct nl cl H
 |8,_=>exact CX w m K hK x y e f c ags at_ pe pf pc Aa At Al na ca nt ct nl cl H
 |9,_=>exact CW w m K hK x y e f c ags at_ pe pf pc Aa At Al na ca nt ct nl cl H
 |10,_=>exact Az w m K hK x y e f c ags at_ pe pf pc Aa At Al na ca nt ct nl cl H
 |11,_=>exact Aw w m K hK x y e f c ags at_ pe pf pc Aa At Al na ca nt ct nl cl H
 |12,_=>exact Au w m K hK x y e f c ags at_ pe pf pc Aa At Al na ca nt ct nl cl H
 |k+13,hk=>exact absurd hk (by omega)
structure RsI (m:Nat) (K:List UInt8→Nat) (r a:Nat) (n:Nat) (w:World):Prop where
 km:eX w m K
 hr:Holds w r 86 #[.map (some m)]
 ha:Holds w a 3 #[.int .i64 n]
 ra:r<a
 ma:m<a
theorem RsI.below {m r a n:Nat} {K:List UInt8→Nat} {w w':World} (h:RsI m K r a n w) (hb:Below w.heap.size w w'):RsI m K r a n w':=
 ⟨h.km.below hb,h.hr.below hb h.hr.lt,h.ha.below hb h.ha.lt,h.ra,h.ma⟩
theorem RsI.put {m r a n:Nat} {K:List UInt8→Nat} {w:World} (h:RsI m K r a n w) (n':Nat):RsI m K r a n' (w.setCell ⟨a,0,none⟩ (.int .i64 n')):=by
 have hW:Writes [some a] w (w.setCell ⟨a,0,none⟩ (.int .i64 n')):=Writes.store w (by simp) _;have h1:=h.ra;have h2:=h.ma;refine⟨h.km.writes hW (by simp;omega),hW.holds h.hr (by simp;omega),?_,h.ra,h.ma⟩;have:=h.ha.store 0 (.int .i64 n');simpa using this
def atD (K:List UInt8→Nat) (_:Nat) (h:Hd):Nat×Bool:=(h.at_,aB K h)
theorem Dk (m r a n:Nat) (K:List UInt8→Nat) (h:Hd) (w:World) (pe pf pc Aa At Al:Option Addr) (na ca nt ct nl cl:Nat) (H:dn w (bF [some a]) h (.pointer pe) (.pointer pf) (.pointer pc) (.slice Aa na ca)) (hI:RsI m K r a n w):
  Calls Tryz.prog 41 #[.agg (stC h pe pf pc Aa At Al na ca nt ct nl cl),.pointer (some ⟨a,0,none⟩),.pointer (some ⟨r,0,none⟩)] w fun e w'=>e= .returned (.bool (aB K h))∧RsI m K r a h.at_ w'∧Writes [some a] w w':=by
 obtain⟨w1,hw1⟩:∃y,y=w.alloc (.cells (stC h pe pf pc Aa At Al na ca nt ct nl cl) 63):=⟨_,rfl⟩;obtain⟨g,hg⟩:∃y,y=w.heap.size:=⟨_,rfl⟩
 have hb1:Below w.heap.size w w1:=by rw[hw1];exact aA w _
 have hs1:Holds w1 g 63 (stC h pe pf pc Aa At Al na ca nt ct nl cl):=by rw[hw1,hg];exact Holds.new w _ _
 have hag:g≠a:=by have:=hI.ha.lt;omega
 have hI1:=hI.below hb1;obtain⟨w2,hw2⟩:∃y,y=w1.setCell ⟨a,0,none⟩ (.int .i64 h.at_):=⟨_,rfl⟩
 have hW2:Writes [some a] w1 w2:=by rw[hw2];exact Writes.store w1 (by simp) _
 have hI2:RsI m K r a h.at_ w2:=by rw[hw2];exact hI1.put h.at_
 have hs2:Holds w2 g 63 (stC h pe pf pc Aa At Al na ca nt ct nl cl):=hW2.holds hs1 (by simp;exact hag);have H2:dn w2 Evr h (.pointer pe) (.pointer pf) (.pointer pc) (.slice Aa na ca):=((H.below hb1).keep fun x hx hS=>hW2.block x hx hS).mono fun _ _ _=>trivial;have hWW:Writes [some a] w w2:=(Writes.of_below hb1 _).trans hW2;have q9:w1.cell? ⟨g,9,none⟩=some (.int .i64 h.at_):=hs1.cell 9;have qg:=hs1.lt;have qa:w1.cell? ⟨a,0,none⟩=some (.int .i64 n):=hI1.ha.cell 0;have qal:=hI1.ha.lt;have qaf:=hI1.ha.frozen 0;have hs1':=Za hs1;have hs2':=Za hs2;have hI2':=Za hI2;have H2':=Za H2;have GK:=Za hWW;have hfo:=Za hw1.symm;have hg':=Za hg.symm;have hfo2:=Za hw2.symm;unfold stC at hfo;clear hw1 hg hb1 hs1 hI1 hw2 hW2 hI2 hs2 H2 hWW H hI;unfold stC;go_enter Tryz.func41,Tryz.ntmps41;go_upto_region 1 with(fail);rw[hg'.out,hfo.out];clear hfo hg';go_upto_region 2 with(fail);rw[hfo2.out];clear hfo2 q9 qg qa qal qaf;have q0:w2.cell? ⟨g,0,none⟩=some (.int .i64 h.k):=hs2'.out.cell 0;have q1:w2.cell? ⟨g,1,none⟩=some (.string (ay h.x)):=hs2'.out.cell 1
 have q2:w2.cell? ⟨g,2,none⟩=some (.string (ay h.y)):=hs2'.out.cell 2;have q3:w2.cell? ⟨g,3,none⟩=some (.pointer pe):=hs2'.out.cell 3;have q4:w2.cell? ⟨g,4,none⟩=some (.pointer pf):=hs2'.out.cell 4;have q5:w2.cell? ⟨g,5,none⟩=some (.pointer pc):=hs2'.out.cell 5;have q6:w2.cell? ⟨g,6,none⟩=some (.slice Aa na ca):=hs2'.out.cell 6;have q7:w2.cell? ⟨g,7,none⟩=some (.slice At nt ct):=hs2'.out.cell 7;have q8:w2.cell? ⟨g,8,none⟩=some (.slice Al nl cl):=hs2'.out.cell 8;have q9:w2.cell? ⟨g,9,none⟩=some (.int .i64 h.at_):=hs2'.out.cell 9;have qs:=hs2'.out.lt;have qr:w2.cell? ⟨r,0,none⟩=some (.map (some m)):=hI2'.out.hr.cell 0;have qrl:=hI2'.out.hr.lt;go_wp2_with fail;refine(AB w2 m K hI2'.out.km h pe pf pc Aa At Al na ca nt ct nl cl H2'.out).mono ?_;rintro e w3 ⟨rfl,hb3⟩;have hI3:=Za (hI2'.out.below hb3);have hW3:=Za (GK.out.trans (Writes.of_below hb3 _));clear hb3 q0 q1 q2 q3 q4 q5 q6 q7 q8 q9 qs qr qrl hs2' hI2' H2' GK hs1';go_wp2_with fail;go_ret;exact⟨rfl,hI3.out,hW3.out⟩
theorem Dj (m r a:Nat) (K:List UInt8→Nat):FC 41 #[] #[.pointer (some ⟨a,0,none⟩),.pointer (some ⟨r,0,none⟩)] [some a] (RsI m K r a) (atD K):=
 ⟨enters_of Tryz.func41 (by kernel_rfl) rfl,fun n h w pe pf pc Aa At Al na ca nt ct nl cl H hI=>Dk m r a n K h w pe pf pc Aa At Al na ca nt ct nl cl H hI,fun _ _ _ h hb=>h.below hb,fun _ _ g h hg=>by simp at hg;subst hg;exact h.ha.lt⟩
theorem jV (K:List UInt8→Nat):∀(l:Sl) (n:Nat),(∀a,dF K l=some a→vis (atD K) n l=(a,false))∧(dF K l=none→(vis (atD K) n l).2=true)
 | .nil,n=>⟨fun a h=>(by cases h),fun _=>rfl⟩
 | .cons h t e r,n=>by
  obtain⟨t1,t2⟩:=jV K t h.at_;obtain⟨e1,e2⟩:=jV K e (vis (atD K) h.at_ t).1;obtain⟨r1,r2⟩:=jV K r (vis (atD K) (vis (atD K) h.at_ t).1 e).1;have hd:(atD K n h).1=h.at_:=rfl;have hd2:(atD K n h).2=aB K h:=rfl;constructor
  ·intro a ha;unfold dF at ha;unfold vis;rw[hd,hd2];by_cases hs:aB K h=true
   ·rw[if_pos hs]at ha⊢
    cases ht:dF K t with
    |some b=>
     rw[ht]at ha;simp only[Option.some.injEq]at ha;rw[t1 b ht,if_neg (by simp),ha]
    |none=>
     rw[ht]at ha;simp only at ha;rw[if_pos (t2 ht)]
     cases he:dF K e with
     |some b=>
      rw[he]at ha;simp only[Option.some.injEq]at ha;rw[e1 b he,if_neg (by simp),ha]
     |none=>
      rw[he]at ha;simp only at ha;rw[if_pos (e2 he)];exact r1 a ha
   ·rw[if_neg hs]at ha⊢;simp only[Option.some.injEq]at ha;rw[ha]
  ·intro hn;unfold dF at hn;unfold vis;rw[hd,hd2];by_cases hs:aB K h=true
   ·rw[if_pos hs]at hn⊢
    cases ht:dF K t with
    |some b=>rw[ht]at hn;cases hn
    |none=>
     rw[ht]at hn;simp only at hn;rw[if_pos (t2 ht)]
     cases he:dF K e with
     |some b=>rw[he]at hn;cases hn
     |none=>
      rw[he]at hn;simp only at hn;rw[if_pos (e2 he)];exact r2 hn
   ·rw[if_neg hs]at hn;cases hn
theorem bI.add {w:World} {S:Nat→Prop} {a:Addr} {vs:List Value} (h:bI w S (some a) vs) (j:Nat) (u:Value) (hu:vs[j]? =some u):w.cell? (a.add j)=some u:=by
 have hne:vs≠[]:=fun e=>by rw[e]at hu;cases hu
 obtain⟨b,off,e,-,hc⟩:=h hne;injection e with e;subst e;have:=hc j u hu
 cases j with
 |zero=>simpa[Addr.add]using this
 |succ j=>simpa[Addr.add]using this
theorem bI.up {w w':World} {A:Option Addr} {vs:List Value} (h:bI w Evr A vs) (hb:Below w.heap.size w w'):bI w' Evr A vs:=h.keep fun x hx _=>hb.block x hx
theorem bI.none_ {w:World} {S:Nat→Prop} {vs:List Value} (h:bI w S none vs):vs= []:=by
 rcases vs with _| ⟨y,r⟩
 ·rfl
 ·obtain⟨_,_,e,_⟩:=h (by simp);cases e
theorem nD (w:World) (t:TypeId) (size:Nat) (B:Nat) (hB:B≤w.heap.size):(w.alloc (.cells #[] t)).ownsRow B t size (.slice (some ⟨w.heap.size,0,none⟩) 0 0) 0 []:=
 ⟨by simp,.inr ⟨w.heap.size,0,#[],rfl,hB,heap_alloc_new w _,Nat.le_refl _,by unfold maxLen;omega,by simp,by simp⟩⟩
theorem Tryz.clVar:(Tryz.prog.info? 79).map (fun i=>(i.zero,i.size,i.bytes))=some (some (.agg #[.string ⟨#[]⟩,.bool false]),2,24):=by kernel_rfl
theorem oC (w:World) (A:Option Addr) (n c:Nat) (vs:List Value) (hl:vs.length=n*2) (hm:n≤300000) (hr:bI w Evr A vs) (h1:∀u∈vs,u.oneCell'=true):
  Calls Tryz.prog 43 #[.slice A n c] w fun e w'=>(∃v,e= .returned v∧w'.ownsRow w.heap.size 79 2 v n vs)∧Below w.heap.size w w':=by
 obtain⟨iA,hiA,hzA0,hzA1,hzA2⟩:=info_parts Tryz.clVar;have hq:=fun w=>Lib.run_eql_slice_nil (P:=Tryz.prog) w 23 79 A n c 0 0 Tryz.underlying23;rcases A with _|a
 ·have hn:vs= []:=hr.none_
  have hn0:n=0:=by rw[hn]at hl;simp at hl;omega
  subst hn hn0;clear hr hl hm h1;go_enter Tryz.func43,Tryz.ntmps43;go_wp2_with fail;go_ret;exact⟨⟨_,rfl,World.ownsRow_nil _ _ _ _⟩,Below.refl _ _⟩
 ·have ho:=Za (nD w 79 2 w.heap.size (Nat.le_refl _));have hnews:=Za ((hr.up (aA w (.cells #[] 79))).add);have hone:=Za h1;have hbn:=Za (aA w (.cells #[] 79));have hbs:=Za (aA w (.cells #[] 79)).size;have hl':=Za hl;clear hr hl h1;go_enter Tryz.func43,Tryz.ntmps43;go_wp2_with
   (at_builtin
    go_loud (refine wpList_append_own_at _ rfl (.tmp 5) (.tmp 6) 23 rfl w.heap.size 79 iA _ 2 24 rfl hiA hzA0 hzA1 hzA2 rfl (by omega) (.slice (some ⟨w.heap.size,0,none⟩) 0 0) 0 [] rfl ho.out a n c vs rfl hl'.out hnews.out hone.out (by unfold maxLen;omega) (by omega) hbs.out ?_)
    intro v1 w1 ho1 hg1 _ _;have hv1:=Za ho1;have hB1:Hid (Below w.heap.size w w1):=Za (hbn.out.trans ((Writes.bG hg1 (M:= [some w.heap.size]) (by simp[Value.ownBlock])).below hbs.out (fun j hj=>by simp at hj;omega)))
    clear ho1 hg1)
  go_ret;exact⟨⟨v1,rfl,by have:=hv1.out;rw[Nat.zero_add,List.nil_append]at this;exact this⟩,hB1.out⟩
theorem Tryz.clArg:(Tryz.prog.info? 168).map (fun i=>(i.zero,i.size,i.bytes))=some (some (.agg #[.bool false,.string ⟨#[]⟩,.pointer none]),3,32):=by kernel_rfl
theorem vZ (w:World) (A:Option Addr) (n c:Nat) (vs:List Value) (hl:vs.length=n*3) (hm:n≤300000) (hr:bI w Evr A vs) (h1:∀u∈vs,u.oneCell'=true):
  Calls Tryz.prog 141 #[.slice A n c] w fun e w'=>(∃v,e= .returned v∧w'.ownsRow w.heap.size 168 3 v n vs)∧Below w.heap.size w w':=by
 obtain⟨iA,hiA,hzA0,hzA1,hzA2⟩:=info_parts Tryz.clArg;have hq:=fun w=>Lib.run_eql_slice_nil (P:=Tryz.prog) w 61 168 A n c 0 0 Tryz.underlying61;rcases A with _|a
 ·have hn:vs= []:=hr.none_
  have hn0:n=0:=by rw[hn]at hl;simp at hl;omega
  subst hn hn0;clear hr hl hm h1;go_enter Tryz.func141,Tryz.ntmps141;go_wp2_with fail;go_ret;exact⟨⟨_,rfl,World.ownsRow_nil _ _ _ _⟩,Below.refl _ _⟩
 ·have ho:=Za (nD w 168 3 w.heap.size (Nat.le_refl _));have hnews:=Za ((hr.up (aA w (.cells #[] 168))).add);have hone:=Za h1;have hbn:=Za (aA w (.cells #[] 168));have hbs:=Za (aA w (.cells #[] 168)).size;have hl':=Za hl;clear hr hl h1;go_enter Tryz.func141,Tryz.ntmps141;go_wp2_with
   (at_builtin
    go_loud (refine wpList_append_own_at _ rfl (.tmp 5) (.tmp 6) 61 rfl w.heap.size 168 iA _ 3 32 rfl hiA hzA0 hzA1 hzA2 rfl (by omega) (.slice (some ⟨w.heap.size,0,none⟩) 0 0) 0 [] rfl ho.out a n c vs rfl hl'.out hnews.out hone.out (by unfold maxLen;omega) (by omega) hbs.out ?_)
    intro v1 w1 ho1 hg1 _ _;have hv1:=Za ho1;have hB1:Hid (Below w.heap.size w w1):=Za (hbn.out.trans ((Writes.bG hg1 (M:= [some w.heap.size]) (by simp[Value.ownBlock])).below hbs.out (fun j hj=>by simp at hj;omega)))
    clear ho1 hg1)
  go_ret;exact⟨⟨v1,rfl,by have:=hv1.out;rw[Nat.zero_add,List.nil_append]at this;exact this⟩,hB1.out⟩
theorem Tryz.clStmt:(Tryz.prog.info? 63).map (fun i=>(i.zero,i.size,i.bytes))=some (some (.agg #[.int .i64 0,.string ⟨#[]⟩,.string ⟨#[]⟩,.pointer none,.pointer none,.pointer none,.slice none 0 0,.slice none 0 0,.slice none 0 0,.int .i64 0]),10,144):=by kernel_rfl
theorem tJ (w:World) (A:Option Addr) (n c:Nat) (vs:List Value) (hl:vs.length=n*10) (hm:n≤300000) (hr:bI w Evr A vs) (h1:∀u∈vs,u.oneCell'=true):
  Calls Tryz.prog 91 #[.slice A n c] w fun e w'=>(∃v,e= .returned v∧w'.ownsRow w.heap.size 63 10 v n vs)∧Below w.heap.size w w':=by
 obtain⟨iA,hiA,hzA0,hzA1,hzA2⟩:=info_parts Tryz.clStmt;have hq:=fun w=>Lib.run_eql_slice_nil (P:=Tryz.prog) w 24 63 A n c 0 0 Tryz.underlying24;rcases A with _|a
 ·have hn:vs= []:=hr.none_
  have hn0:n=0:=by rw[hn]at hl;simp at hl;omega
  subst hn hn0;clear hr hl hm h1;go_enter Tryz.func91,Tryz.ntmps91;go_wp2_with fail;go_ret;exact⟨⟨_,rfl,World.ownsRow_nil _ _ _ _⟩,Below.refl _ _⟩
 ·have ho:=Za (nD w 63 10 w.heap.size (Nat.le_refl _));have hnews:=Za ((hr.up (aA w (.cells #[] 63))).add);have hone:=Za h1;have hbn:=Za (aA w (.cells #[] 63));have hbs:=Za (aA w (.cells #[] 63)).size;have hl':=Za hl;clear hr hl h1;go_enter Tryz.func91,Tryz.ntmps91;go_wp2_with
   (at_builtin
    go_loud (refine wpList_append_own_at _ rfl (.tmp 5) (.tmp 6) 24 rfl w.heap.size 63 iA _ 10 144 rfl hiA hzA0 hzA1 hzA2 rfl (by omega) (.slice (some ⟨w.heap.size,0,none⟩) 0 0) 0 [] rfl ho.out a n c vs rfl hl'.out hnews.out hone.out (by unfold maxLen;omega) (by omega) hbs.out ?_)
    intro v1 w1 ho1 hg1 _ _;have hv1:=Za ho1;have hB1:Hid (Below w.heap.size w w1):=Za (hbn.out.trans ((Writes.bG hg1 (M:= [some w.heap.size]) (by simp[Value.ownBlock])).below hbs.out (fun j hj=>by simp at hj;omega)))
    clear ho1 hg1)
  go_ret;exact⟨⟨v1,rfl,by have:=hv1.out;rw[Nat.zero_add,List.nil_append]at this;exact this⟩,hB1.out⟩
def gB (w:World) (S:Nat→Prop) (g n:Nat) (f:Nat→Ag) (cs:Array Value):Prop:=
 Holds w g 168 cs∧∀j,j<n→∃ve,cs[j*3]? =some (.bool (f j).ptr)∧cs[j*3+1]? =some (.string (ay (f j).nm))∧cs[j*3+2]? =some ve∧aJ w S (f j).e ve∧(f j).nm.length≤4096
section
variable {w w':World} {S:Nat→Prop} {g n:Nat} {f:Nat→Ag} {cs:Array Value}
theorem gB.below (h:gB w S g n f cs) (hb:Below w.heap.size w w'):gB w' S g n f cs:=
 ⟨h.1.below hb h.1.lt,fun j hj=>by
  obtain⟨ve,a,b,c,d,e⟩:=h.2 j hj
  exact⟨ve,a,b,c,d.below hb,e⟩⟩
theorem gB.put (h:gB w S g n f cs) (hgS:¬S g) {k:Nat} (hk:k<n) {x:List UInt8} (hx:x.length≤4096):
  gB (((w.setCell ⟨g,k*3,none⟩ (.bool true)).setCell ⟨g,k*3+1,none⟩ (.string (ay x))).setCell ⟨g,k*3+2,none⟩ (.pointer none)) S g n (fun j=>if j=k then⟨true,x,.nil⟩else f j)
   (((cs.setIfInBounds (k*3) (.bool true)).setIfInBounds (k*3+1) (.string (ay x))).setIfInBounds (k*3+2) (.pointer none)):=by
 have hW:Writes [some g] w (((w.setCell ⟨g,k*3,none⟩ (.bool true)).setCell ⟨g,k*3+1,none⟩ (.string (ay x))).setCell ⟨g,k*3+2,none⟩ (.pointer none)):=
  ((Writes.store w (by simp) _).trans (Writes.store _ (by simp) _)).trans (Writes.store _ (by simp) _)
 refine⟨((h.1.store _ _).store _ _).store _ _,fun j hj=> ?_⟩;obtain⟨ve,a,b,c,d,e⟩:=h.2 j hj;have hs:j*3+2<cs.size:=(Array.getElem?_eq_some_iff.1 c).1;by_cases hjk:j=k
 ·subst hjk;dsimp only;rw[if_pos rfl];refine⟨.pointer none,?_,?_,?_,rfl,hx⟩
  ·rw[Array.getElem?_setIfInBounds_ne (by omega),Array.getElem?_setIfInBounds_ne (by omega),Array.getElem?_setIfInBounds_self_of_lt (by omega)]
  ·rw[Array.getElem?_setIfInBounds_ne (by omega),Array.getElem?_setIfInBounds_self_of_lt (by simp;omega)]
  ·rw[Array.getElem?_setIfInBounds_self_of_lt (by simp;omega)]
 ·dsimp only;rw[if_neg hjk];refine⟨ve,?_,?_,?_,d.keep (fun x hx hS=>hW.block x hx (by simp;rintro rfl;exact hgS hS)),e⟩
  ·rw[Array.getElem?_setIfInBounds_ne (by omega),Array.getElem?_setIfInBounds_ne (by omega),Array.getElem?_setIfInBounds_ne (by omega)];exact a
  ·rw[Array.getElem?_setIfInBounds_ne (by omega),Array.getElem?_setIfInBounds_ne (by omega),Array.getElem?_setIfInBounds_ne (by omega)];exact b
  ·rw[Array.getElem?_setIfInBounds_ne (by omega),Array.getElem?_setIfInBounds_ne (by omega),Array.getElem?_setIfInBounds_ne (by omega)];exact c
theorem gB.congr (h:gB w S g n f cs) {f':Nat→Ag} (he:∀j,j<n→f' j=f j):gB w S g n f' cs:=
 ⟨h.1,fun j hj=>by rw[he j hj];exact h.2 j hj⟩
theorem gB.cells (h:gB w S g n f cs):∀k,k≤n→∃vs,vs.length=k*3∧(∀j u,vs[j]? =some u→w.cell? ⟨g,0+j,none⟩=some u)∧aW w S ((List.range k).map f) vs
 |0,_=>⟨[],rfl,by simp,rfl⟩
 |k+1,hk=>by
  obtain⟨vs,hl,hc,ha⟩:=gB.cells h k (by omega);obtain⟨ve,a,b,c,d,e⟩:=h.2 k (by omega);refine⟨vs++ [.bool (f k).ptr,.string (ay (f k).nm),ve],by simp;omega,fun j u hu=> ?_,?_⟩
  ·rw[Nat.zero_add,h.1.cell];rcases Nat.lt_or_ge j vs.length with h1|h1
   ·rw[List.getElem?_append_left h1]at hu;have:=hc j u hu;rw[Nat.zero_add,h.1.cell]at this;exact this
   ·rw[List.getElem?_append_right h1,hl]at hu
    have h2:j-k*3<3:=by have:=(List.getElem?_eq_some_iff.1 hu).1;simpa using this
    match hj:j-k*3,h2 with
    |0,_=>rw[hj]at hu;simp at hu;rw[show j=k*3 by omega,a,hu]
    |1,_=>rw[hj]at hu;simp at hu;rw[show j=k*3+1 by omega,b,hu]
    |2,_=>rw[hj]at hu;simp at hu;rw[show j=k*3+2 by omega,c,hu]
  ·rw[List.range_succ,List.map_append];exact aW.snoc ha e d
theorem gB.ags (h:gB w S g n f cs) {l:List Ag} (hl:l.length=n) (hf:∀j (hj:j<l.length),f j=l[j]) (hn:n≤100000) {c:Nat} (hc:n≤c):aZ w (fun x=>S x∨x=g) l (.slice (some ⟨g,0,none⟩) n c):=by
 obtain⟨vs,h1,h2,h3⟩:=h.cells n (Nat.le_refl _)
 have e:(List.range n).map f=l:=by
  apply List.ext_getElem
  ·simp[hl]
  ·intro i h4 h5;simp only[List.getElem_map,List.getElem_range];exact hf i h5
 rw[e]at h3;subst hl;exact⟨_,c,vs,rfl,hn,hc,fun _=>⟨g,0,rfl,.inr rfl,h2⟩,h3.mono fun _ _ h=> .inl h⟩
theorem gB.of {base:Nat} {v:Value} {l:List Ag} {vs:List Value} {w0:World} (h:w.ownsRow base 168 3 v l.length vs) (hne:l≠[]) (hc:aW w0 S l vs) (hb:Below w0.heap.size w0 w):
  ∃g cap cs,v= .slice (some ⟨g,0,none⟩) l.length cap∧l.length≤cap∧base≤g∧gB w (fun x=>x<w0.heap.size∧S x) g l.length (fun j=>l.getD j ⟨false,[],.nil⟩) cs:=by
 have hlen:vs.length=l.length*3:=h.1;rcases h.2 with⟨h1,h2⟩| ⟨g,cap,cur,h1,hg,hh,hcap,hmx,hsz,htk⟩
 ·exact absurd (List.eq_nil_of_length_eq_zero h2) hne
 ·refine⟨g,cap,cur,h1,hcap,hg,hh,fun j hj=> ?_⟩;obtain⟨ve,a,b,c,d,e⟩:=hc.at_ hj
  have hcur:∀i u,vs[i]? =some u→cur[i]? =some u:=fun i u hu=>by
   have hi:i<vs.length:=(List.getElem?_eq_some_iff.1 hu).1;rw[←htk,List.getElem?_take]at hu;split at hu
   ·rw[←Array.getElem?_toList];exact hu
   ·cases hu
  simp only[List.getD_eq_getElem?_getD,List.getElem?_eq_getElem hj,Option.getD_some];exact⟨ve,hcur _ _ a,hcur _ _ b,hcur _ _ c,(d.mono fun x hx hS=>⟨hx,hS⟩).below hb,e⟩
end
theorem aW.one {w:World} {S:Nat→Prop}:∀{l:List Ag} {vs:List Value},aW w S l vs→∀u∈vs,u.oneCell'=true
 | [],vs,h=>by obtain rfl:vs= []:=h;intro u hu;cases hu
 |a::l,vs,h=>by
  obtain⟨ve,vs',rfl,-,h1,h2⟩:=h;obtain⟨p,rfl⟩:=h1.vp;intro u hu;simp only[List.mem_cons]at hu;rcases hu with rfl|rfl|rfl|hu
  ·rfl
  ·rfl
  ·rfl
  ·exact aW.one h2 u hu
theorem Rsv.writes {m r g:Nat} {K:List UInt8→Nat} {w0 w w':World} (h:Rsv m K r w0 w) (hW:Writes [some g] w w') (hg:r<g) (hm:m<g) (hw:w0.heap.size≤r):Rsv m K r w0 w':=
 ⟨h.km.writes hW (by simp;omega),hW.holds h.hr (by simp;omega),h.bl.trans (hW.below h.bl.size (fun j hj=>by simp at hj;omega))⟩
theorem uz {e:Ex} {w:World} {S:Nat→Prop} {v:Value} (hE:aJ w S e v):e.name.length≤4096:=by
 cases e with
 |nil=>simp[Ex.name]
 |mk=>obtain⟨_,_,_,_,_,hn,_⟩:=hE;exact hn
def iF (K:List UInt8→Nat) (l:List Ag) (k j:Nat):Ag:=if j<k then fG K (l.getD j ⟨false,[],.nil⟩)else l.getD j ⟨false,[],.nil⟩
theorem AV (w:World) (m:Nat) (K:List UInt8→Nat) (h:eX w m K) (l:List Ag) (v:Value) (S:Nat→Prop) (hA:aZ w S l v):
  Calls Tryz.prog 92 #[.agg #[.map (some m)],v] w fun e w'=>∃v',e= .returned v'∧aZ w' (fun x=>S x∨w.heap.size≤x) (l.map (fG K)) v'∧Below w.heap.size w w':=by
 have hS:=Rsv.start h;have hmr:=h.lt;obtain⟨w1,hw1⟩:∃y,y=w.alloc (.cells #[.map (some m)] 86):=⟨_,rfl⟩;rw[←hw1]at hS;obtain⟨r,hr⟩:∃y,y=w.heap.size:=⟨_,rfl⟩
 have hsz1:w1.heap.size=r+1:=by rw[hw1,hr];simp
 have hfold:Hid (w.alloc (.cells #[.map (some m)] 86)=w1):=Za hw1.symm;have hrB:Hid (w.heap.size=r):=Za hr.symm;rw[←hr]at hS;have hS':=Za hS;obtain⟨A,c,vs,e,hlen,hlc,hrow,hcs⟩:=hA;subst e;have hvl:=hcs.length;have hone:=Za hcs.one;have hrow1:=Za ((hrow.mono (S':=Evr) fun _ _ _=>trivial).up hS.bl);have hA':Hid (aZ w Evr l (.slice A l.length c)):=Za ⟨A,c,vs,rfl,hlen,hlc,hrow.mono fun _ _ _=>trivial,hcs.mono fun _ _ _=>trivial⟩;have hcs':=Za hcs;obtain⟨n,hn'⟩:∃y,y=l.length:=⟨_,rfl⟩;rw[←hn']at hlen hlc hvl hA'⊢;have hn2:=Za hn';have FY:=Za (hr▸hmr:m<r);have hsz1':=Za hsz1;clear hw1 hr hS hn' h hrow hcs hmr hsz1;go_enter Tryz.func92,Tryz.ntmps92;go_upto_region 1 with(fail);rw[hrB.out,hfold.out];clear hfold;go_wp2_with fail;refine(vZ w1 A n c vs hvl (by omega) hrow1.out hone.out).mono ?_;rintro e w2 ⟨⟨v1,rfl,ho⟩,hb⟩;have hS2:=Za (hS'.out.below hb);clear hrow1 hone hS';by_cases hne:l= []
 ·subst hne
  obtain rfl:n=0:=by rw[hn2.out];rfl
  have hv1:∃A' c',v1= .slice A' 0 c':=by obtain⟨A',c',e,-,-⟩:=bI.own (S:=fun _=>True) ho (fun _ _=>trivial);exact⟨A',c',e⟩
  obtain⟨A',c',rfl⟩:=hv1;clear ho hb hA' hcs';go_wp2_with fail;go_loopw [14] (fun i wl=>i= .int .i64 0∧Hid (Below w.heap.size w wl)) (fun _ _=>0)
  case atStart=>exact⟨rfl,Za hS2.out.bl⟩
  clear hS2;obtain⟨rfl,hB⟩:=hrel;go_wp2_with fail;go_ret;exact⟨_,rfl,⟨A',c',[],rfl,by simp,by simp,bI.nil_ _ _ _,rfl⟩,hB.out⟩
 ·have hof:=gB.of (l:=l) (w:=w2) (jL ho hn2.out) hne hcs'.out (hS2.out.bl);obtain⟨g,cap,cs,hv1,hcap,hgb,hAR⟩:=hof;rw[←hn2.out]at hv1 hcap hAR;subst hv1;have hg:=Za (by have:=hsz1'.out;omega:r<g);have Ea:Hid (gB w2 (fun x=>x<w.heap.size∧S x) g n (iF K l 0) cs):=Za (hAR.congr fun j hj=>by unfold iF;rw[if_neg (by omega)]);clear ho hb hcs' hgb hAR;go_wp2_with fail;go_loopw [14] (fun i wl=>∃(k:Nat) (cs:Array Value),k≤n∧i= .int .i64 k∧Hid (gB wl (fun x=>x<w.heap.size∧S x) g n (iF K l k) cs)∧Hid (Rsv m K r w wl)) (fun i _=>n-(intOf i).toNat)
  case atStart=>exact⟨0,cs,by omega,rfl,Ea,hS2⟩
  clear Ea hS2;obtain⟨k,cs,hk,rfl,hAR,hS⟩:=hrel;rename World=>wl;by_cases hkn:k<n
  ·have hkl:k<l.length:=by rw[←hn2.out];exact hkn
   have hA2:=hA'.out;rw[hn2.out]at hA2;obtain⟨b,off,ve,e,hb,c0,c1,c2,hx,hnm⟩:=aZ.at_ hA2 hkl;subst e;have q0:=(hS.out.bl.cell (p:=⟨b,off+k*3,none⟩) hb).trans c0;have q1:=(hS.out.bl.cell (p:=⟨b,off+k*3+1,none⟩) hb).trans c1;have q2:=(hS.out.bl.cell (p:=⟨b,off+k*3+2,none⟩) hb).trans c2;have hx2:=Za (hx.below hS.out.bl);obtain⟨p,rfl⟩:=hx.vp;obtain⟨a,hae⟩:∃a,a=l[k]:=⟨_,rfl⟩;rw[←hae]at q0 q1 hx2 hnm;have xH:Hid (l.getD k ⟨false,[],.nil⟩=a):=Za (by rw[hae];simp[List.getD_eq_getElem?_getD,List.getElem?_eq_getElem hkl])
   have hstep:Hid (fG K a=a→∀cs' w',gB w' (fun x=>x<w.heap.size∧S x) g n (iF K l k) cs'→gB w' (fun x=>x<w.heap.size∧S x) g n (iF K l (k+1)) cs'):=Za (fun hh cs' w' H=>H.congr fun j hj=>by
    unfold iF;by_cases h1:j<k
    ·rw[if_pos h1,if_pos (by omega)]
    ·by_cases h2:j=k
     ·rw[if_neg h1,if_pos (by omega),h2,xH.out,hh]
     ·rw[if_neg h1,if_neg (by omega)])
   clear hb c0 c1 c2 hx hA2 hae;obtain⟨ap,an,ae⟩:=a;simp only at q0 q1 hx2 hnm;obtain⟨wn,hwn⟩:∃y,y=wl.alloc (.cells #[.bool ap,.string (ay an),.pointer p] 168):=⟨_,rfl⟩;obtain⟨ga,hga⟩:∃y,y=wl.heap.size:=⟨_,rfl⟩
   have hbn:Below wl.heap.size wl wn:=by rw[hwn];exact aA wl _
   have hHa:Holds wn ga 168 #[.bool ap,.string (ay an),.pointer p]:=by rw[hwn,hga];exact Holds.new wl _ _
   have hSn:=hS.out.below hbn;have GV:=Za (hAR.out.below hbn);have hxn:=Za (hx2.out.below hbn);have hfo:Hid (wl.alloc (.cells #[.bool ap,.string (ay an),.pointer p] 168)=wn):=Za hwn.symm;have xJ:=Za hga.symm;clear hwn hbn hga hS hx2 hAR;go_upto_region 5 with(fail);rw[xJ.out,hfo.out];clear hfo xJ q0 q1 q2;have q2:=hHa.cell 2;have ql:=hHa.lt;simp at q2;obtain⟨qr,qrl⟩:=hSn.facts;have tH:=Za hHa;have tC:=Za hSn;clear hHa hSn;go_wp2_with fail;refine(kU wn m K tC.out.km ae _ hxn.out).mono ?_;rintro e w3 ⟨rfl,hb3⟩;have hHa3:=tH.out.below hb3 tH.out.lt;clear q2 ql qr qrl;have q0:=hHa3.cell 0;simp at q0;have ql:=hHa3.lt;have hS3:=Za (tC.out.below hb3);have hAR3:=GV.out.below hb3;have hxl:Hid (ae.name.length≤4096):=Za (uz hxn.out);clear hb3 hHa3 tH tC hxn GV
   cases hp:dN K ae with
   |false=>
    have hgo:Hid (gB w3 (fun x=>x<w.heap.size∧S x) g n (iF K l (k+1)) cs):=Za (hstep.out (by unfold fG;simp[hp]) cs w3 hAR3);clear hp hAR3;go_wp2_with fail;exact⟨⟨k+1,cs,by omega,by simp,hgo,hS3⟩,by simp[intOf];omega⟩
   |true=>
    cases hap:ap with
    |true=>
     have hgo:Hid (gB w3 (fun x=>x<w.heap.size∧S x) g n (iF K l (k+1)) cs):=Za (hstep.out (by unfold fG;simp[hap]) cs w3 hAR3);rw[hap]at q0;clear hp hAR3 hap;go_wp2_with fail;exact⟨⟨k+1,cs,by omega,by simp,hgo,hS3⟩,by simp[intOf];omega⟩
    |false=>
     rw[hap]at q0;have hnv:Hid (fM K ae=ae.name):=Za (by unfold fM;rw[if_pos hp]);have hput:=hAR3.put (fun hh=>by have h1:=hh.1;have h2:=hg.out;have h3:=hrB.out;omega) hkn hxl.out;obtain⟨ve,y0,y1,y2,-,-⟩:=hAR3.2 k hkn;have z0:w3.cell? ⟨g,k*3,none⟩=some (.bool (iF K l k k).ptr):=(hAR3.1.cell _).trans y0;have z1:w3.cell? ⟨g,k*3+1,none⟩=some (.string (ay (iF K l k k).nm)):=(hAR3.1.cell _).trans y1;have z2:w3.cell? ⟨g,k*3+2,none⟩=some ve:=(hAR3.1.cell _).trans y2;have zl:=hAR3.1.lt;have zf:=fun i=>hAR3.1.frozen i;obtain⟨w4,hw4⟩:∃y,y=((w3.setCell ⟨g,k*3,none⟩ (.bool true)).setCell ⟨g,k*3+1,none⟩ (.string (ay ae.name))).setCell ⟨g,k*3+2,none⟩ (.pointer none):=⟨_,rfl⟩
     have hW4:Writes [some g] w3 w4:=by rw[hw4];exact((Writes.store w3 (by simp) _).trans (Writes.store _ (by simp) _)).trans (Writes.store _ (by simp) _)
     have hS4:Hid (Rsv m K r w w4):=Za (hS3.out.writes hW4 hg.out (Nat.lt_trans FY.out hg.out) (by rw[hrB.out];exact Nat.le_refl _));rw[←hw4]at hput
     have hgo:Hid (gB w4 (fun x=>x<w.heap.size∧S x) g n (iF K l (k+1)) _):=Za (hput.congr fun j hj=>by
      unfold iF;by_cases h2:j=k
      ·rw[if_pos (by omega),h2,xH.out,if_pos rfl];unfold fG;simp[hp,hap]
      ·rw[if_neg h2];by_cases h1:j<k
       ·rw[if_pos h1,if_pos (by omega)]
       ·rw[if_neg h1,if_neg (by omega)])
     have hfo4:=Za hw4.symm;rw[hnv.out];clear hp hAR3 hap hput y0 y1 y2 hw4 hW4 hS3;go_wp2_with fail;rw[hfo4.out];exact⟨⟨k+1,_,by omega,by simp,hgo,hS4⟩,by simp[intOf];omega⟩
  ·obtain rfl:k=n:=by omega
   have hlast:Hid (aZ wl (fun x=>S x∨w.heap.size≤x) (l.map (fG K)) (.slice (some ⟨g,0,none⟩) k cap)):=Za ((hAR.out.ags (by rw[List.length_map,←hn2.out]) (fun j hj=>by
    rw[List.getElem_map];unfold iF
    have hj2:j<l.length:=by simpa using hj
    rw[if_pos (by rw[hn2.out];exact hj2)]
    simp[List.getD_eq_getElem?_getD,List.getElem?_eq_getElem hj2]) hlen hcap).mono fun x hx hh=>by
    rcases hh with hh|hh
    ·exact .inl hh.2
    ·exact .inr (by have h2:=hg.out;have h3:=hrB.out;omega))
   have hB3:Hid (Below w.heap.size w wl):=Za hS.out.bl;clear hAR hS;go_wp2_with fail;go_ret;exact⟨_,rfl,hlast.out,hB3.out⟩
def Sl.elems:Sl→List (Hd×Sl×Sl)
 | .nil=> []
 | .cons h t e r=>(h,t,e)::r.elems
def ofL:List (Hd×Sl×Sl)→Sl
 | []=> .nil
 |x::l=> .cons x.1 x.2.1 x.2.2 (ofL l)
theorem uH:∀l:Sl,ofL l.elems=l
 | .nil=>rfl
 | .cons h t e r=>by show Sl.cons h t e (ofL r.elems)=_;rw[uH r]
theorem iQ:∀l:Sl,l.elems.length=l.len
 | .nil=>rfl
 | .cons h t e r=>by show r.elems.length+1=r.len+1;rw[iQ r]
theorem xg:∀(l:List (Hd×Sl×Sl)) (x:Hd×Sl×Sl),ofL (l++ [x])=(ofL l).snoc x.1 x.2.1 x.2.2
 | [],_=>rfl
 |y::l,x=>by show Sl.cons y.1 y.2.1 y.2.2 (ofL (l++ [x]))=Sl.cons y.1 y.2.1 y.2.2 ((ofL l).snoc _ _ _);rw[xg l x]
def FI (K:List UInt8→Nat) (x:Hd×Sl×Sl):Hd×Sl×Sl:=(n_ K x.1,dI K x.2.1,dI K x.2.2)
theorem jM (K:List UInt8→Nat):∀l:Sl,(dI K l).elems=l.elems.map (FI K)
 | .nil=>rfl
 | .cons h t e r=>by show FI K (h,t,e)::(dI K r).elems=_;rw[jM K r];rfl
def SEl (w:World) (S:Nat→Prop) (x:Hd×Sl×Sl) (cs:Array Value) (o:Nat):Prop:=
 ∃pe pf pc Aa ca At ct Al cl,(∀j,j<10→cs[o+j]? =(stC x.1 pe pf pc Aa At Al x.1.args.length ca x.2.1.len ct x.2.2.len cl)[j]?)∧
  dn w S x.1 (.pointer pe) (.pointer pf) (.pointer pc) (.slice Aa x.1.args.length ca)∧aQ w S x.2.1 (.slice At x.2.1.len ct)∧aQ w S x.2.2 (.slice Al x.2.2.len cl)
def jT (w:World) (S:Nat→Prop) (g n:Nat) (f:Nat→Hd×Sl×Sl) (cs:Array Value):Prop:=
 Holds w g 63 cs∧∀j,j<n→SEl w S (f j) cs (j*10)
section
variable {w w':World} {S S':Nat→Prop} {g n:Nat} {f f':Nat→Hd×Sl×Sl} {cs cs':Array Value} {x:Hd×Sl×Sl} {o:Nat}
theorem SEl.keep (h:SEl w S x cs o) (hk:∀x,x<w.heap.size→S x→w'.heap[x]? =w.heap[x]?):SEl w' S x cs o:=by
 obtain⟨pe,pf,pc,Aa,ca,At,ct,Al,cl,a,b,c,d⟩:=h;exact⟨pe,pf,pc,Aa,ca,At,ct,Al,cl,a,b.keep hk,c.keep hk,d.keep hk⟩
theorem SEl.mono (h:SEl w S x cs o) (hk:∀x,x<w.heap.size→S x→S' x):SEl w S' x cs o:=by
 obtain⟨pe,pf,pc,Aa,ca,At,ct,Al,cl,a,b,c,d⟩:=h;exact⟨pe,pf,pc,Aa,ca,At,ct,Al,cl,a,b.mono hk,c.mono hk,d.mono hk⟩
theorem SEl.cells (h:SEl w S x cs o) (hc:∀j,j<10→cs'[o+j]? =cs[o+j]?):SEl w S x cs' o:=by
 obtain⟨pe,pf,pc,Aa,ca,At,ct,Al,cl,a,b,c,d⟩:=h;exact⟨pe,pf,pc,Aa,ca,At,ct,Al,cl,fun j hj=>(hc j hj).trans (a j hj),b,c,d⟩
theorem jT.below (h:jT w S g n f cs) (hb:Below w.heap.size w w'):jT w' S g n f cs:=
 ⟨h.1.below hb h.1.lt,fun j hj=>(h.2 j hj).keep fun x hx _=>hb.block x hx⟩
theorem jT.mono (h:jT w S g n f cs) (hk:∀x,x<w.heap.size→S x→S' x):jT w S' g n f cs:=⟨h.1,fun j hj=>(h.2 j hj).mono hk⟩
theorem jT.congr (h:jT w S g n f cs) (he:∀j,j<n→f' j=f j):jT w S g n f' cs:=⟨h.1,fun j hj=>by rw[he j hj];exact h.2 j hj⟩
theorem jT.put (h:jT w S g n f cs) (hgS:¬S g) {k r:Nat} (hk:k<n) (hr:r<10) (u:Value) (x:Hd×Sl×Sl)
  (hx:∀w',(∀y,y<w.heap.size→S y→w'.heap[y]? =w.heap[y]?)→SEl w S (f k) cs (k*10)→k*10+9<cs.size→SEl w' S x (cs.setIfInBounds (k*10+r) u) (k*10)):
  jT (w.setCell ⟨g,k*10+r,none⟩ u) S g n (fun j=>if j=k then x else f j) (cs.setIfInBounds (k*10+r) u):=by
 have hW:Writes [some g] w (w.setCell ⟨g,k*10+r,none⟩ u):=Writes.store w (by simp) _;have hkeep:∀y,y<w.heap.size→S y→(w.setCell ⟨g,k*10+r,none⟩ u).heap[y]? =w.heap[y]? :=fun y hy hS=>hW.block y hy (by simp;rintro rfl;exact hgS hS);refine⟨h.1.store _ _,fun j hj=> ?_⟩;by_cases hjk:j=k
 ·dsimp only;rw[if_pos hjk,hjk];refine hx _ hkeep (h.2 k hk) ?_;obtain⟨pe,pf,pc,Aa,ca,At,ct,Al,cl,a,-⟩:=h.2 k hk;exact(Array.getElem?_eq_some_iff.1 (a 9 (by omega))).1
 ·dsimp only;rw[if_neg hjk];refine((h.2 j hj).keep hkeep).cells fun i hi=> ?_;rw[Array.getElem?_setIfInBounds_ne (by omega)]
theorem SEl.facts (h:SEl w S x cs o) (hH:Holds w g 63 cs):∃pe Aa ca At ct Al cl,w.cell? ⟨g,o+0,none⟩=some (.int .i64 x.1.k)∧w.cell? ⟨g,o+3,none⟩=some (.pointer pe)∧w.cell? ⟨g,o+6,none⟩=some (.slice Aa x.1.args.length ca)∧
  w.cell? ⟨g,o+7,none⟩=some (.slice At x.2.1.len ct)∧w.cell? ⟨g,o+8,none⟩=some (.slice Al x.2.2.len cl)∧(∃v,w.cell? ⟨g,o+2,none⟩=some v)∧aJ w S x.1.e (.pointer pe)∧aZ w S x.1.args (.slice Aa x.1.args.length ca)∧aQ w S x.2.1 (.slice At x.2.1.len ct)∧aQ w S x.2.2 (.slice Al x.2.2.len cl):=by
 obtain⟨pe,pf,pc,Aa,ca,At,ct,Al,cl,a,b,c,d⟩:=h;exact⟨pe,Aa,ca,At,ct,Al,cl,(hH.cell _).trans (a 0 (by omega)),(hH.cell _).trans (a 3 (by omega)),(hH.cell _).trans (a 6 (by omega)),(hH.cell _).trans (a 7 (by omega)),(hH.cell _).trans (a 8 (by omega)),⟨_,(hH.cell _).trans (a 2 (by omega))⟩,b.e,b.a,c,d⟩
theorem jT.cells (h:jT w S g n f cs):∀k,k≤n→∃vs,vs.length=k*10∧(∀j u,vs[j]? =some u→w.cell? ⟨g,0+j,none⟩=some u)∧aN w S (ofL ((List.range k).map f)) vs
 |0,_=>⟨[],rfl,by simp,rfl⟩
 |k+1,hk=>by
  obtain⟨vs,hl,hc,ha⟩:=jT.cells h k (by omega);obtain⟨pe,pf,pc,Aa,ca,At,ct,Al,cl,a,b,c,d⟩:=h.2 k (by omega);refine⟨vs++(stC (f k).1 pe pf pc Aa At Al (f k).1.args.length ca (f k).2.1.len ct (f k).2.2.len cl).toList,by simp[stC];omega,fun j u hu=> ?_,?_⟩
  ·rcases Nat.lt_or_ge j vs.length with h1|h1
   ·rw[List.getElem?_append_left h1]at hu;exact hc j u hu
   ·rw[List.getElem?_append_right h1,hl]at hu
    have h2:j-k*10<10:=by have:=(List.getElem?_eq_some_iff.1 hu).1;simpa[stC]using this
    have:=a (j-k*10) h2;rw[show k*10+(j-k*10)=j by omega]at this;rw[Nat.zero_add,h.1.cell,this,←Array.getElem?_toList];exact hu
  ·rw[List.range_succ,List.map_append,List.map_singleton,xg];exact aN.snoc ha b c d
theorem jT.sl (h:jT w S g n f cs) {l:Sl} (hl:l.len=n) (hf:∀j (hj:j<l.elems.length),f j=l.elems[j]) (hn:n≤100000) {c:Nat} (hc:n≤c):aQ w (fun x=>S x∨x=g) l (.slice (some ⟨g,0,none⟩) n c):=by
 obtain⟨vs,h1,h2,h3⟩:=h.cells n (Nat.le_refl _)
 have e:(List.range n).map f=l.elems:=by
  apply List.ext_getElem
  ·simp[iQ,hl]
  ·intro i h4 h5;simp only[List.getElem_map,List.getElem_range];exact hf i h5
 rw[e,uH]at h3;subst hl;exact⟨_,c,vs,rfl,hn,hc,fun _=>⟨g,0,rfl,.inr rfl,h2⟩,h3.mono fun _ _ h=> .inl h⟩
theorem aN.at_:∀{l:Sl} {vs:List Value},aN w S l vs→∀{k:Nat} (hk:k<l.elems.length),SEl w S l.elems[k] vs.toArray (k*10)
 | .nil,_,_,k,hk=>absurd hk (by simp[Sl.elems])
 | .cons h t e r,vs,hc,k,hk=>by
  obtain⟨ve,vf,vc,va,vt,vl,vs',rfl,hh,ht,he,hrest⟩:=hc
  cases k with
  |zero=>
   obtain⟨pe,rfl⟩:=hh.e.vp;obtain⟨pf,rfl⟩:=hh.f.vp;obtain⟨pc,rfl⟩:=hh.c.vp;obtain⟨Aa,ca,vas,rfl,a1,a2,a3,a4⟩:=hh.a;obtain⟨At,ct,ts,rfl,t1,t2,t3,t4⟩:=ht;obtain⟨Al,cl,es,rfl,e1,e2,e3,e4⟩:=he;refine⟨pe,pf,pc,Aa,ca,At,ct,Al,cl,fun j hj=> ?_,hh,⟨At,ct,ts,rfl,t1,t2,t3,t4⟩,⟨Al,cl,es,rfl,e1,e2,e3,e4⟩⟩;rw[List.getElem?_toArray,Nat.zero_mul,Nat.zero_add,List.getElem?_append_left (by simp[Hd.cells];omega),Array.getElem?_toList];rfl
  |succ k=>
   have ih:=aN.at_ hrest (k:=k) (by simpa[Sl.elems]using hk);obtain⟨pe,pf,pc,Aa,ca,At,ct,Al,cl,a,b,c,d⟩:=ih;refine⟨pe,pf,pc,Aa,ca,At,ct,Al,cl,fun j hj=> ?_,b,c,d⟩;have:=a j hj;refine Eq.trans ?_ this;rw[List.getElem?_toArray,List.getElem?_toArray,List.getElem?_append_right (by simp[Hd.cells];omega)];congr 1;simp[Hd.cells];omega
theorem jT.of {base:Nat} {v:Value} {l:Sl} {vs:List Value} {w0:World} (h:w.ownsRow base 63 10 v l.len vs) (hne:l≠.nil) (hc:aN w0 S l vs) (hb:Below w0.heap.size w0 w):
  ∃g cap cs,v= .slice (some ⟨g,0,none⟩) l.len cap∧l.len≤cap∧base≤g∧jT w (fun x=>x<w0.heap.size∧S x) g l.len (fun j=>l.elems.getD j (hd0 0,.nil,.nil)) cs:=by
 have hlen:vs.length=l.len*10:=h.1;rcases h.2 with⟨h1,h2⟩| ⟨g,cap,cur,h1,hg,hh,hcap,hmx,hsz,htk⟩
 ·cases l with
  |nil=>exact absurd rfl hne
  |cons h t e r=>simp[Sl.len]at h2
 ·refine⟨g,cap,cur,h1,hcap,hg,hh,fun j hj=> ?_⟩
  have hj2:j<l.elems.length:=by rw[iQ];exact hj
  have hs:=hc.at_ hj2
  have hcur:∀i u,vs[i]? =some u→cur[i]? =some u:=fun i u hu=>by
   rw[←htk,List.getElem?_take]at hu;split at hu
   ·rw[←Array.getElem?_toList];exact hu
   ·cases hu
  simp only[List.getD_eq_getElem?_getD,List.getElem?_eq_getElem hj2,Option.getD_some];refine((hs.mono fun x hx hS=>⟨hx,hS⟩).keep fun x hx _=>hb.block x hx).cells fun i hi=> ?_
  have hi2:j*10+i<vs.length:=by omega
  have e1:vs.toArray[j*10+i]? =vs[j*10+i]? :=List.getElem?_toArray;rw[e1,List.getElem?_eq_getElem hi2];exact hcur _ _ (List.getElem?_eq_getElem hi2)
theorem aN.one:∀{l:Sl} {vs:List Value},aN w S l vs→∀u∈vs,u.oneCell'=true
 | .nil,vs,h=>by obtain rfl:vs= []:=h;intro u hu;cases hu
 | .cons h t e r,vs,hc=>by
  obtain⟨ve,vf,vc,va,vt,vl,vs',rfl,hh,ht,he,hrest⟩:=hc;obtain⟨pe,rfl⟩:=hh.e.vp;obtain⟨pf,rfl⟩:=hh.f.vp;obtain⟨pc,rfl⟩:=hh.c.vp;obtain⟨Aa,ca,vas,rfl,a1,a2,a3,a4⟩:=hh.a;obtain⟨At,ct,ts,rfl,t1,t2,t3,t4⟩:=ht;obtain⟨Al,cl,es,rfl,e1,e2,e3,e4⟩:=he;intro u hu;rcases List.mem_append.1 hu with hu|hu
  ·simp only[Hd.cells,List.mem_cons,List.not_mem_nil,or_false]at hu;rcases hu with rfl|rfl|rfl|rfl|rfl|rfl|rfl|rfl|rfl|rfl<;>rfl
  ·exact aN.one hrest u hu
end
end Go.Proofs.YtpndglghpojjkaaGreat
