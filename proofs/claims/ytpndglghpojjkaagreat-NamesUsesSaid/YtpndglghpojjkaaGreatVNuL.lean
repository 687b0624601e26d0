/-
  The walk of NamesUses: a function of bytes names what the document says.
-/
import Derived.Test.YtpndglghpojjkaaGreatVNuI
import Derived.Test.YtpndglghpojjkaaGreatVNuJ
import Derived.Test.YtpndglghpojjkaaGreatVNsG
import Derived.Test.YtpndglghpojjkaaGreatPua14
import Derived.Test.YtpndglghpojjkaaGreatVNuO
set_option maxRecDepth 1000000
set_option maxHeartbeats 8000000

namespace Go.Proofs.YtpndglghpojjkaaGreat
open Go.RowKit Go.Deep

set_option maxHeartbeats 4000000 in
theorem place_any (w:World) (k:Int):Calls Tryz.prog 14 #[.int .i64 k,.int .i64 4] w fun e w'=>(∃r:Nat,e= .returned (.int .i64 r)∧r<4)∧w'=w:=by
 have h1: -4<k.tmod 4:=by have:=Int.lt_tmod_of_pos k (b:=4) (by decide);omega
 have h2:k.tmod 4<4:=Int.tmod_lt_of_pos k (by decide);by_cases hn:k.tmod 4<0
 ·go_enter Tryz.func14,Tryz.ntmps14;go_wp2_with fail;go_ret;exact⟨⟨(k.tmod 4+4).toNat,by rw[Int.toNat_of_nonneg (by omega)];rfl,by omega⟩,rfl⟩
 ·go_enter Tryz.func14,Tryz.ntmps14;go_wp2_with fail;go_ret;exact⟨⟨(k.tmod 4).toNat,by rw[Int.toNat_of_nonneg (by omega)];rfl,by omega⟩,rfl⟩
set_option maxHeartbeats 4000000 in
theorem nuses_walk (W:World) (v0 v1:Value) (o0:gQ 3 W v0) (o1:gQ 37 W v1):Calls Tryz.prog 5 #[v0,v1] W fun e w'=>e= .returned (.bool true)∧Below W.heap.size W w':=by
 obtain⟨k,rfl,-⟩:=o0.int;obtain⟨A,n,c,b,rfl,hn,hnc,hcm,hb⟩:=o1.bytes;have hb':=Za hb;have hn':=Za hn;clear o0 o1 hb hn;by_cases hl:n≤200
 case neg=>
  go_enter Tryz.func5,Tryz.ntmps5;go_wp2_with fail;refine(mP W).mono ?_;rintro e w1 ⟨rfl,hb1⟩;have hB1:=Za hb1;clear hb1;go_wp2_with fail;go_ret;exact⟨rfl,hB1.out⟩
 go_enter Tryz.func5,Tryz.ntmps5;go_wp2_with fail;refine(mP W).mono ?_;rintro e w1 ⟨rfl,hb1⟩;have hB1:=Za hb1;have hby:=Za (show Bytes w1 w1.heap.size A b from Row.more (Row.below hb'.out hb1) hb1.size);clear hb1;go_wp2_with fail;refine(place_any w1 k).mono ?_;rintro e w1 ⟨⟨kk,rfl,hkk⟩,rfl⟩;have cF:=fn_any b w1 A c hby.out (by have:=hn'.out;omega) kk hkk;rw[hn'.out]at cF
 replace cF:=Za cF;go_wp2_with fail;refine cF.out.mono ?_;clear cF;rintro e w2 ⟨r,B1,B2,B3,Bn1,Bn2,Bn3,Bc1,Bc2,Bc3,rfl,hF2,hb2,hT⟩;have hX2:=jH.new hF2;have hbn:=aA w2 (.cells #[.string (ay r.nm),.slice B1 Bn1 Bc1,.slice B2 Bn2 Bc2,.slice B3 Bn3 Bc3] 26)
 obtain⟨w3,hw2⟩:∃x,x=w2.alloc (.cells #[.string (ay r.nm),.slice B1 Bn1 Bc1,.slice B2 Bn2 Bc2,.slice B3 Bn3 Bc3] 26):=⟨_,rfl⟩;obtain⟨g3,hg2⟩:∃x,x=w2.heap.size:=⟨_,rfl⟩;rw[←hw2,←hg2]at hX2;rw[←hw2]at hbn;have hB3:=Za ((hB1.out.trans (hb2.mono hB1.out.size)).trans (hbn.mono (hB1.out.trans (hb2.mono hB1.out.size)).size));have hY3:=Za hX2
 have hV:=Za (NmOk.of hT);have hfo:=Za hw2.symm;have hgo:=Za hg2.symm;clear hF2 hb2 hT hX2 hbn hw2 hg2 hB1 hby;go_upto_region 6 with(fail);rw[hfo.out,hgo.out];clear hfo hgo;have cN:=Za (rnames_num hY3.out.at_ hV.out.n);obtain⟨q0,q1,q2,q3,ql⟩:=hY3.out.facts;go_wp2_with fail;refine cN.out.mono ?_;clear cN q0 q1 q2 q3 ql
 rintro e v0 ⟨X1,X2,X3,k1,k2,k3,x1,x2,x3,rfl,⟨l1,l2,l3⟩,⟨b1,b2,b3⟩,⟨r1,r2,r3⟩,hb⟩;have hY0:=Za (hY3.out.below hb);have hB0:=Za (hB3.out.trans (hb.mono hB3.out.size));have R1:=Za r1;have R2:=Za r2;have R3:=Za r3;have l1':=Za l1;have l2':=Za l2;have l3':=Za l3;clear hb r1 r2 r3 l1 l2 l3
 have cA:=Za (cells_num hY0.out.at_ hV.out.c hV.out.e1 (by rw[l1'.out];exact b1));obtain⟨q0,q1,q2,q3,ql⟩:=hY0.out.facts;go_wp2_with fail;refine cA.out.mono ?_;clear cA q0 q1 q2 q3 ql;rintro e v1 ⟨⟨A,na,ca,rfl,la,ba,ra⟩,hb⟩;have hY1:=Za (hY0.out.below hb);have hB1:=Za (hB0.out.trans (hb.mono hB0.out.size));replace R1:=Za ((R1.out.below hb).more hb.size)
 replace R2:=Za ((R2.out.below hb).more hb.size);replace R3:=Za ((R3.out.below hb).more hb.size);have cS:=Za (strs_same v1 (c:=ca) (k:=k1) la l1'.out ba b1 ra R1.out);clear hb la ba ra;go_wp2_with fail;refine cS.out.mono ?_;clear cS;rintro e v2 ⟨rfl,hb⟩;have hY2:=Za (hY1.out.below hb);have hB2:=Za (hB1.out.trans (hb.mono hB1.out.size))
 replace R1:=Za ((R1.out.below hb).more hb.size);replace R2:=Za ((R2.out.below hb).more hb.size);replace R3:=Za ((R3.out.below hb).more hb.size);clear hb;have cA:=Za (arrs_num hY2.out.at_ hV.out.d hV.out.e2 (by rw[l2'.out];exact b2));obtain⟨q0,q1,q2,q3,ql⟩:=hY2.out.facts;go_wp2_with fail;refine cA.out.mono ?_;clear cA q0 q1 q2 q3 ql
 rintro e v3 ⟨⟨A,na,ca,rfl,la,ba,ra⟩,hb⟩;have hY3:=Za (hY2.out.below hb);have hB3:=Za (hB2.out.trans (hb.mono hB2.out.size));replace R1:=Za ((R1.out.below hb).more hb.size);replace R2:=Za ((R2.out.below hb).more hb.size);replace R3:=Za ((R3.out.below hb).more hb.size);have cS:=Za (strs_same v3 (c:=ca) (k:=k2) la l2'.out ba b2 ra R2.out)
 clear hb la ba ra;go_wp2_with fail;refine cS.out.mono ?_;clear cS;rintro e v4 ⟨rfl,hb⟩;have hY4:=Za (hY3.out.below hb);have hB4:=Za (hB3.out.trans (hb.mono hB3.out.size));replace R1:=Za ((R1.out.below hb).more hb.size);replace R2:=Za ((R2.out.below hb).more hb.size);replace R3:=Za ((R3.out.below hb).more hb.size);clear hb
 have cA:=Za (cals_num hY4.out.at_ hV.out.d hV.out.e3 (by rw[l3'.out];exact b3));obtain⟨q0,q1,q2,q3,ql⟩:=hY4.out.facts;go_wp2_with fail;refine cA.out.mono ?_;clear cA q0 q1 q2 q3 ql;rintro e v5 ⟨⟨A,na,ca,rfl,la,ba,ra⟩,hb⟩;have hY5:=Za (hY4.out.below hb);have hB5:=Za (hB4.out.trans (hb.mono hB4.out.size));replace R1:=Za ((R1.out.below hb).more hb.size)
 replace R2:=Za ((R2.out.below hb).more hb.size);replace R3:=Za ((R3.out.below hb).more hb.size);have cS:=Za (strs_same v5 (c:=ca) (k:=k3) la l3'.out ba b3 ra R3.out);clear hb la ba ra;go_wp2_with fail;refine cS.out.mono ?_;clear cS;rintro e v6 ⟨rfl,hb⟩;have hY6:=Za (hY5.out.below hb);have hB6:=Za (hB5.out.trans (hb.mono hB5.out.size))
 replace R1:=Za ((R1.out.below hb).more hb.size);replace R2:=Za ((R2.out.below hb).more hb.size);replace R3:=Za ((R3.out.below hb).more hb.size);clear hb;go_wp2_with fail;go_ret;exact⟨rfl,hB6.out⟩
end Go.Proofs.YtpndglghpojjkaaGreat
