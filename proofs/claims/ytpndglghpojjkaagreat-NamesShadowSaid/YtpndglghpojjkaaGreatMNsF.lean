/-
  The walk of NamesShadow: a local hides what has its name.
-/
import Derived.Test.YtpndglghpojjkaaGreatPma12
import Derived.Test.YtpndglghpojjkaaGreatMNsG
import Derived.Deep.DeepCutAuto
set_option maxRecDepth 1000000
set_option maxHeartbeats 8000000

namespace Go.Proofs.YtpndglghpojjkaaGreat
open Go.RowKit Go.Deep

structure ShOk (r:Fnc) (x:S):Prop where
 n:uN r.body≤100000
 c:jI (fun h=>hsC h+1) r.body≤500000
 d:jI (fun _=>1) r.body≤500000
 e1:canon (each (hdP (cZ (r.ps++r.ls))) r.body)=uC (fnV0 r) r.body []
 e2:canon (each (globs (cZ (r.ps++r.ls)) jd) r.body)=uA r.body []
 e3:canon (each (globs (cZ (r.ps++r.ls)) iw) r.body)=uL r.body []
 h1:(uC (fnV0 r) r.body []).contains x=false
 h2:(uA r.body []).contains x=false
 h3:(uL r.body []).contains x=false
theorem ShOk.of {r:Fnc} {x:S} (h:shV r x=true):ShOk r x:=by
 unfold shV at h;simp only[Bool.and_eq_true,beq_iff_eq,decide_eq_true_eq,Bool.not_eq_true',pR]at h;obtain⟨a,b,c,d,e,f,g,i,j⟩:=h;exact⟨g,i,j,a,b,c,d,e,f⟩
theorem strV_cat (l r:List UInt8):ay l++ay r=ay (l++r):=by
 apply ByteArray.ext;simp[ay]
theorem pick_mem (w:World) {l:List (List UInt8)} {cs:Array Value} (hc:cs=(l.map fun t=>Value.string (ay t)).toArray) {m:Nat} (hm:m<l.length):
  (w.alloc (.cells cs 9)).cell? ⟨w.heap.size,m,none⟩=some (.string (ay (l.getD m []))):=by
 subst hc;rw[(Holds.new w 9 _).cell m];simp[hm]
set_option maxHeartbeats 4000000 in
theorem nshadow_walk (W:World) (v0 v1 v2:Value) (o0:gQ 5 W v0) (o1:gQ 5 W v1) (o2:gQ 5 W v2):Calls Tryz.prog 6 #[v0,v1,v2] W fun e w'=>e= .returned (.bool true)∧Below W.heap.size W w':=by
 obtain⟨i0,rfl,hi0⟩:=o0.u8;obtain⟨p0,rfl,hp0⟩:=o1.u8;obtain⟨m0,rfl,hm0⟩:=o2.u8;clear o0 o1 o2;go_enter Tryz.func6,Tryz.ntmps6;go_wp2_with fail;refine(mP W).mono ?_;rintro e w1 ⟨rfl,hb1⟩;have q1:=pick_mem w1 (l:= [[99],[116],[103],[122]]) (cs:= #[.string ⟨#[99]⟩,.string ⟨#[116]⟩,.string ⟨#[103]⟩,.string ⟨#[122]⟩]) rfl (m:=i0%4) (Nat.mod_lt _ (by decide))
 have ql:w1.heap.size<(w1.alloc (.cells #[.string ⟨#[99]⟩,.string ⟨#[116]⟩,.string ⟨#[103]⟩,.string ⟨#[122]⟩] 9)).heap.size:=(Holds.new w1 _ _).lt;have hbn:=aA w1 (.cells #[.string ⟨#[99]⟩,.string ⟨#[116]⟩,.string ⟨#[103]⟩,.string ⟨#[122]⟩] 9);have hB1:=Lib.hid (hb1.trans (hbn.mono hb1.size));clear hb1 hbn
 rw[show(([[99],[116],[103],[122]]:List (List UInt8)).getD (i0%4) [])=nm4 (i0%4)from(by decide:∀k,k<4→([[99],[116],[103],[122]]:List (List UInt8)).getD k []=nm4 k) _ (Nat.mod_lt _ (by decide))]at q1
 have hxl:(ay (nm4 (i0%4))).size=1:=by
  rw[oK];unfold nm4
  repeat' split
  all_goals rfl
 go_upto_region 5 with(fail);obtain⟨w2,hw2⟩:∃z,z=w1.alloc (.cells #[.string ⟨#[99]⟩,.string ⟨#[116]⟩,.string ⟨#[103]⟩,.string ⟨#[122]⟩] 9):=⟨_,rfl⟩;rw[←hw2];rw[←hw2]at hB1;clear q1 ql hw2
 go_upto_if 31 with(fail)
 go_cut [8] (fun k wc=>k= .string (ay (kd2 (p0%2)))∧wc=w2)
 case' first=>
  by_cases hp:p0%2=1
  ·have hpb:(((p0:Int)%2)==1)=true:=by simp;omega
   go_wp2_with fail
   go_meet
   case rel=>exact⟨by rw[hp];rfl,rfl⟩
  ·have hpb:(((p0:Int)%2)==1)=false:=by simp;omega
   go_wp2_with fail
   go_meet
   case rel=>exact⟨by rw[show p0%2=0 by omega];rfl,rfl⟩
 case' rest=>
  obtain⟨rfl,rfl⟩:=hcut
  have q2:(wc.alloc (.cells #[.string ⟨#[120,32,61,32,99,59]⟩,.string ⟨#[99,32,61,32,49,59]⟩,.string ⟨#[120,32,61,32,116,91,48,93,59]⟩,.string ⟨#[116,91,48,93,32,61,32,49,59]⟩,.string ⟨#[120,32,61,32,103,40,49,41,59]⟩,.string ⟨#[103,40,49,41,59]⟩,.string ⟨#[105,102,32,40,99,32,60,32,49,41,32,123,32,122,32,61,32,49,59,32,125]⟩] 9)).cell? ⟨wc.heap.size,m0%7,none⟩=some (.string (ay (shTxt (m0%7)))):=pick_mem wc (l:= [[120,32,61,32,99,59],[99,32,61,32,49,59],[120,32,61,32,116,91,48,93,59],[116,91,48,93,32,61,32,49,59],[120,32,61,32,103,40,49,41,59],[103,40,49,41,59],[105,102,32,40,99,32,60,32,49,41,32,123,32,122,32,61,32,49,59,32,125]]) rfl (m:=m0%7) (Nat.mod_lt _ (by decide))
  have ql:wc.heap.size<(wc.alloc (.cells #[.string ⟨#[120,32,61,32,99,59]⟩,.string ⟨#[99,32,61,32,49,59]⟩,.string ⟨#[120,32,61,32,116,91,48,93,59]⟩,.string ⟨#[116,91,48,93,32,61,32,49,59]⟩,.string ⟨#[120,32,61,32,103,40,49,41,59]⟩,.string ⟨#[103,40,49,41,59]⟩,.string ⟨#[105,102,32,40,99,32,60,32,49,41,32,123,32,122,32,61,32,49,59,32,125]⟩] 9)).heap.size:=(Holds.new wc _ _).lt
  have hbn:=aA wc (.cells #[.string ⟨#[120,32,61,32,99,59]⟩,.string ⟨#[99,32,61,32,49,59]⟩,.string ⟨#[120,32,61,32,116,91,48,93,59]⟩,.string ⟨#[116,91,48,93,32,61,32,49,59]⟩,.string ⟨#[120,32,61,32,103,40,49,41,59]⟩,.string ⟨#[103,40,49,41,59]⟩,.string ⟨#[105,102,32,40,99,32,60,32,49,41,32,123,32,122,32,61,32,49,59,32,125]⟩] 9)
  have hB3:=Lib.hid (hB1.out.trans (hbn.mono hB1.out.size))
  have htl:(ay (shTxt (m0%7))).size≤60:=by rw[oK];exact shTxt_len
  have hkl:(ay (kd2 (p0%2))).size=4:=by rw[oK];unfold kd2;split<;>rfl
  clear hbn hB1;go_upto_region 8 with(fail)
  obtain⟨w3,hw3⟩:∃z,z=wc.alloc (.cells #[.string ⟨#[120,32,61,32,99,59]⟩,.string ⟨#[99,32,61,32,49,59]⟩,.string ⟨#[120,32,61,32,116,91,48,93,59]⟩,.string ⟨#[116,91,48,93,32,61,32,49,59]⟩,.string ⟨#[120,32,61,32,103,40,49,41,59]⟩,.string ⟨#[103,40,49,41,59]⟩,.string ⟨#[105,102,32,40,99,32,60,32,49,41,32,123,32,122,32,61,32,49,59,32,125]⟩] 9):=⟨_,rfl⟩
  rw[←hw3];rw[←hw3]at hB3;clear q2 ql hw3;obtain⟨f,fa,r,ra,rb,zn,hr,hv⟩:=shadow_told (p:=p0%2) (i:=i0%4) (m:=m0%7) (Nat.mod_lt _ (by decide)) (Nat.mod_lt _ (by decide)) (Nat.mod_lt _ (by decide))
  have hse:((⟨#[102,110,32,102,40,120,41,32,123,32]⟩:ByteArray)++ay (kd2 (p0%2))++ay (nm4 (i0%4))++⟨#[59,32]⟩++ay (shTxt (m0%7))++⟨#[32,125]⟩).data.toList=shFull (p0%2) (i0%4) (m0%7):=by simp[ay,shFull]
  have hsz:((⟨#[102,110,32,102,40,120,41,32,123,32]⟩:ByteArray)++ay (kd2 (p0%2))++ay (nm4 (i0%4))++⟨#[59,32]⟩++ay (shTxt (m0%7))++⟨#[32,125]⟩).size≤maxLen:=by simp only[ByteArray.size_append,hkl,hxl];exact Nat.le_trans (Nat.add_le_add_right (Nat.add_le_add_left htl _) _) (by decide)
  have cF:=Lib.hid ((rV w3 _ hsz).mono fun e w' h=>(h.out (f:=f) (a:=fa) (b:=0) (by rw[hse];exact zn)).num);have hwf':Hid (WfS f.body):=Lib.hid (by have:=(xQ (shFull (p0%2) (i0%4) (m0%7))).body;rw[zn]at this;exact this);have hr':=Lib.hid hr;have hv':=Lib.hid hv;clear hse hsz zn hr hv;go_wp2_with fail;refine cF.out.mono ?_;clear cF
  rintro e w5 ⟨A1,A2,A3,An1,An2,An3,Ac1,Ac2,Ac3,rfl,hF5,hb5⟩;have hX5:=jH.new hF5;have hbn:=aA w5 (.cells #[.string (ay f.nm),.slice A1 An1 Ac1,.slice A2 An2 Ac2,.slice A3 An3 Ac3] 26);obtain⟨w6,hw5⟩:∃x,x=w5.alloc (.cells #[.string (ay f.nm),.slice A1 An1 Ac1,.slice A2 An2 Ac2,.slice A3 An3 Ac3] 26):=⟨_,rfl⟩
  obtain⟨g6,hg5⟩:∃x,x=w5.heap.size:=⟨_,rfl⟩;rw[←hw5,←hg5]at hX5;rw[←hw5]at hbn;have hst5:=hb5.trans (hbn.mono hb5.size);have hB6:=Lib.hid (hB3.out.trans (hst5.mono hB3.out.size));have hY5:=Lib.hid hX5;have hfo:=Lib.hid hw5.symm;have hgo:=Lib.hid hg5.symm;clear hF5 hb5 hbn hst5 hw5 hg5 hX5 hB3;go_upto_region 9 with(fail);rw[hfo.out,hgo.out];clear hfo hgo
  have cR:=lF w6 hr'.out hY5.out.at_;rw[show ay [102]=⟨#[102]⟩from rfl]at cR;replace cR:=Lib.hid cR;obtain⟨q0,q1,q2,q3,ql⟩:=hY5.out.facts;go_wp2_with fail;refine cR.out.mono ?_;clear cR q0 q1 q2 q3 ql;rintro e w7 ⟨B1,B2,B3,Bn1,Bn2,Bn3,Bc1,Bc2,Bc3,rfl,hF7,hb7⟩;have hX7:=jH.new hF7
  have hbn:=aA w7 (.cells #[.string (ay r.nm),.slice B1 Bn1 Bc1,.slice B2 Bn2 Bc2,.slice B3 Bn3 Bc3] 26);obtain⟨w8,hw7⟩:∃x,x=w7.alloc (.cells #[.string (ay r.nm),.slice B1 Bn1 Bc1,.slice B2 Bn2 Bc2,.slice B3 Bn3 Bc3] 26):=⟨_,rfl⟩;obtain⟨g8,hg7⟩:∃x,x=w7.heap.size:=⟨_,rfl⟩;rw[←hw7,←hg7]at hX7;rw[←hw7]at hbn;have hst7:=hb7.trans (hbn.mono hb7.size)
  have hB8:=Lib.hid (hB6.out.trans (hst7.mono hB6.out.size));replace hY5:=Lib.hid (hY5.out.below hst7);have hY7:=Lib.hid hX7;have hfo:=Lib.hid hw7.symm;have hgo:=Lib.hid hg7.symm;clear hF7 hb7 hbn hst7 hw7 hg7 hX7 hB6;go_upto_region 12 with(fail);rw[hfo.out,hgo.out];clear hfo hgo;have cR:=jQ w8 hwf'.out hr'.out hY5.out.at_;rw[show ay [102]=⟨#[102]⟩from rfl]at cR
  replace cR:=Lib.hid cR;obtain⟨q0,q1,q2,q3,ql⟩:=hY5.out.facts;go_wp2_with fail;refine cR.out.mono ?_;clear cR q0 q1 q2 q3 ql;rintro e w9 ⟨D1,D2,D3,Dn1,Dn2,Dn3,Dc1,Dc2,Dc3,rfl,hF9,hb9⟩;have hX9:=jH.new hF9;have hbn:=aA w9 (.cells #[.string (ay r.nm),.slice D1 Dn1 Dc1,.slice D2 Dn2 Dc2,.slice D3 Dn3 Dc3] 26)
  obtain⟨w10,hw9⟩:∃x,x=w9.alloc (.cells #[.string (ay r.nm),.slice D1 Dn1 Dc1,.slice D2 Dn2 Dc2,.slice D3 Dn3 Dc3] 26):=⟨_,rfl⟩;obtain⟨g10,hg9⟩:∃x,x=w9.heap.size:=⟨_,rfl⟩;rw[←hw9,←hg9]at hX9;rw[←hw9]at hbn;have hst9:=hb9.trans (hbn.mono hb9.size);have hB10:=Lib.hid (hB8.out.trans (hst9.mono hB8.out.size));replace hY5:=Lib.hid (hY5.out.below hst9)
  replace hY7:=Lib.hid (hY7.out.below hst9);have hY9:=Lib.hid hX9;have hfo:=Lib.hid hw9.symm;have hgo:=Lib.hid hg9.symm;clear hF9 hb9 hbn hst9 hw9 hg9 hX9 hB8;go_upto_region 13 with(fail);rw[hfo.out,hgo.out];clear hfo hgo;have c1:=Lib.hid (pG w10 hY7.out.at_ hY9.out.at_);obtain⟨x0,x1,x2,x3,xl⟩:=hY7.out.facts;obtain⟨y0,y1,y2,y3,yl⟩:=hY9.out.facts;clear hr' hY5;go_wp2_with fail
  refine c1.out.mono ?_;clear c1 x0 x1 x2 x3 xl y0 y1 y2 y3 yl;rintro e wz ⟨rfl,hbz⟩;have hBz:=Lib.hid (hB10.out.trans (hbz.mono hB10.out.size));have hYz:=Lib.hid (hY7.out.below hbz);clear hbz;by_cases h0:rb=0
  case neg=>
   have hbb:((rb:Int) !=0)=true:=by simp;omega
   go_wp2_with fail;go_ret;exact⟨rfl,hBz.out⟩
  have hV:=Lib.hid (ShOk.of (hv'.out h0));subst h0;clear hv' hwf' hY7 hY9;have cN:=Lib.hid (rnames_num hYz.out.at_ hV.out.n);obtain⟨q0,q1,q2,q3,ql⟩:=hYz.out.facts;go_wp2_with fail;refine cN.out.mono ?_;clear cN q0 q1 q2 q3 ql;rintro e v0 ⟨X1,X2,X3,k1,k2,k3,x1,x2,x3,rfl,⟨l1,l2,l3⟩,⟨b1,b2,b3⟩,⟨r1,r2,r3⟩,hb⟩;have hY0:=Lib.hid (hYz.out.below hb)
  have hB0:=Lib.hid (hBz.out.trans (hb.mono hBz.out.size));have R1:=Lib.hid r1;have R2:=Lib.hid r2;have R3:=Lib.hid r3;have l1':=Lib.hid l1;have l2':=Lib.hid l2;have l3':=Lib.hid l3;clear hb r1 r2 r3 l1 l2 l3;have cA:=Lib.hid (cells_num hY0.out.at_ hV.out.c hV.out.e1 (by rw[l1'.out];exact b1));obtain⟨q0,q1,q2,q3,ql⟩:=hY0.out.facts;go_wp2_with fail;refine cA.out.mono ?_
  clear cA q0 q1 q2 q3 ql;rintro e v1 ⟨⟨A,na,ca,rfl,la,ba,ra⟩,hb⟩;have hY1:=Lib.hid (hY0.out.below hb);have hB1:=Lib.hid (hB0.out.trans (hb.mono hB0.out.size));replace R1:=Lib.hid ((R1.out.below hb).more hb.size);replace R2:=Lib.hid ((R2.out.below hb).more hb.size);replace R3:=Lib.hid ((R3.out.below hb).more hb.size)
  have cS:=Lib.hid (strs_same v1 (c:=ca) (k:=k1) la l1'.out ba b1 ra R1.out);clear hb la ba ra;go_wp2_with fail;refine cS.out.mono ?_;clear cS;rintro e v2 ⟨rfl,hb⟩;have hY2:=Lib.hid (hY1.out.below hb);have hB2:=Lib.hid (hB1.out.trans (hb.mono hB1.out.size));replace R1:=Lib.hid ((R1.out.below hb).more hb.size);replace R2:=Lib.hid ((R2.out.below hb).more hb.size)
  replace R3:=Lib.hid ((R3.out.below hb).more hb.size);clear hb;have cA:=Lib.hid (arrs_num hY2.out.at_ hV.out.d hV.out.e2 (by rw[l2'.out];exact b2));obtain⟨q0,q1,q2,q3,ql⟩:=hY2.out.facts;go_wp2_with fail;refine cA.out.mono ?_;clear cA q0 q1 q2 q3 ql;rintro e v3 ⟨⟨A,na,ca,rfl,la,ba,ra⟩,hb⟩;have hY3:=Lib.hid (hY2.out.below hb);have hB3:=Lib.hid (hB2.out.trans (hb.mono hB2.out.size))
  replace R1:=Lib.hid ((R1.out.below hb).more hb.size);replace R2:=Lib.hid ((R2.out.below hb).more hb.size);replace R3:=Lib.hid ((R3.out.below hb).more hb.size);have cS:=Lib.hid (strs_same v3 (c:=ca) (k:=k2) la l2'.out ba b2 ra R2.out);clear hb la ba ra;go_wp2_with fail;refine cS.out.mono ?_;clear cS;rintro e v4 ⟨rfl,hb⟩;have hY4:=Lib.hid (hY3.out.below hb)
  have hB4:=Lib.hid (hB3.out.trans (hb.mono hB3.out.size));replace R1:=Lib.hid ((R1.out.below hb).more hb.size);replace R2:=Lib.hid ((R2.out.below hb).more hb.size);replace R3:=Lib.hid ((R3.out.below hb).more hb.size);clear hb;have cA:=Lib.hid (cals_num hY4.out.at_ hV.out.d hV.out.e3 (by rw[l3'.out];exact b3));obtain⟨q0,q1,q2,q3,ql⟩:=hY4.out.facts;go_wp2_with fail;refine cA.out.mono ?_
  clear cA q0 q1 q2 q3 ql;rintro e v5 ⟨⟨A,na,ca,rfl,la,ba,ra⟩,hb⟩;have hY5:=Lib.hid (hY4.out.below hb);have hB5:=Lib.hid (hB4.out.trans (hb.mono hB4.out.size));replace R1:=Lib.hid ((R1.out.below hb).more hb.size);replace R2:=Lib.hid ((R2.out.below hb).more hb.size);replace R3:=Lib.hid ((R3.out.below hb).more hb.size)
  have cS:=Lib.hid (strs_same v5 (c:=ca) (k:=k3) la l3'.out ba b3 ra R3.out);clear hb la ba ra;go_wp2_with fail;refine cS.out.mono ?_;clear cS;rintro e v6 ⟨rfl,hb⟩;have hY6:=Lib.hid (hY5.out.below hb);have hB6:=Lib.hid (hB5.out.trans (hb.mono hB5.out.size));replace R1:=Lib.hid ((R1.out.below hb).more hb.size);replace R2:=Lib.hid ((R2.out.below hb).more hb.size)
  replace R3:=Lib.hid ((R3.out.below hb).more hb.size);clear hb;have cH:=Lib.hid (has_not v6 (c:=k1) l1'.out b1 R1.out hV.out.h1);rw[show encStr (nm4 (i0%4))= .string (ay (nm4 (i0%4)))from rfl]at cH;go_wp2_with fail;refine cH.out.mono ?_;clear cH;rintro e v7 ⟨rfl,rfl⟩;have cH:=Lib.hid (has_not v7 (c:=k2) l2'.out b2 R2.out hV.out.h2)
  rw[show encStr (nm4 (i0%4))= .string (ay (nm4 (i0%4)))from rfl]at cH;go_wp2_with fail;refine cH.out.mono ?_;clear cH;rintro e v8 ⟨rfl,rfl⟩;have cH:=Lib.hid (has_not v8 (c:=k3) l3'.out b3 R3.out hV.out.h3);rw[show encStr (nm4 (i0%4))= .string (ay (nm4 (i0%4)))from rfl]at cH;go_wp2_with fail;refine cH.out.mono ?_;clear cH;rintro e v9 ⟨rfl,rfl⟩;go_wp2_with fail;go_ret
  exact⟨rfl,hB6.out⟩
end Go.Proofs.YtpndglghpojjkaaGreat
