/-
  1 texts of the proof, in one file: no condition.
-/
import Derived.WalkKit
import Derived.WalkSpells
import Derived.WalkLawsBesides
import Derived.Lib.Hide
import Derived.Deep.Draws
import Derived.Lib.SlBytesConst
import Derived.Test.YtpndglghpojjkaaGreatRows
import Derived.ProofKit
import Derived.OpenShut
import Derived.Deep.Matrix
import Derived.Maps.AppendAt
import Derived.Deep.QuietTactic
import Derived.BigQuiet
import Derived.StillTailTactics
import Derived.IntWalk
import Derived.Deep.DeepCutAuto
import Derived.Laws.ResultCell
import Derived.Laws.Rows
import Derived.Laws.NewBlocks
import Derived.Test.YtpndglghpojjkaaGreatProg
import Derived.Maps.OwnSet
import Derived.Maps.RangeWalk
import Derived.StringKeys
import Derived.Shelf.Abstract
import Derived.OwnWalk
import Derived.Lib.SliceRun
import Derived.Lib.Walk
import Derived.Lib.AppendZerosOnto
import Derived.Lib.SlicesCompact
import Derived.Sort.EncStr
import Derived.Shelf.Small.Strs
import Derived.Shelf.Sort.Plain
import Derived.Ground.Names2Prog
import Derived.Shelf.Slices.Clone
import Derived.Shelf.Slices.CompactS
import Derived.Shelf.Slices.Cells
import Derived.Shelf.Slices.In.SortNone
import Derived.Sort.OwnSorted
import Derived.Sort.Grow
import Derived.Lib.OwnBridge
import Derived.RegionTactic
import Derived.ChangeAlike
import Derived.BigRegion
import Derived.Shelf.SlIter.Nil
import Derived.Shelf.SortM.Plain
import Derived.Shelf.SortM.SortNone
import Derived.Ground.GgzProg
import Derived.Ground.SlgmProg
import Derived.Deep.Slices
import Derived.Test.YtpndglghpojjkaaGreatPma1
import Derived.Test.YtpndglghpojjkaaGreatPma10
import Derived.Test.YtpndglghpojjkaaGreatPma11
import Derived.Test.YtpndglghpojjkaaGreatPma12
import Derived.Test.YtpndglghpojjkaaGreatPma2
import Derived.Test.YtpndglghpojjkaaGreatPma3
import Derived.Test.YtpndglghpojjkaaGreatPma4
import Derived.Test.YtpndglghpojjkaaGreatPma5
import Derived.Test.YtpndglghpojjkaaGreatPma7
import Derived.Test.YtpndglghpojjkaaGreatPma8
import Derived.Test.YtpndglghpojjkaaGreatPma9
set_option maxRecDepth 1000000
set_option maxHeartbeats 8000000
namespace Go.Proofs.YtpndglghpojjkaaGreat
open Go.RowKit Go.Deep
theorem EN (s:ByteArray):∃u:List UInt8,s=ay u:=⟨s.data.toList,by simp[ay]⟩
theorem sZ (W:World) (v0 v1:Value) (o0:gQ 9 W v0) (o1:gQ 9 W v1):Calls Tryz.prog 3 #[v0,v1] W fun e w'=>e= .returned (.bool true)∧Below W.heap.size W w':=by
 obtain⟨s,rfl,hs⟩:=o0.text;obtain⟨t,rfl,ht⟩:=o1.text;have hs':=Lib.hid hs;have ht':=Lib.hid ht;clear hs ht o0 o1;by_cases hl:s.size≤1500
 case neg=>
  go_enter Tryz.func3,Tryz.ntmps3;go_wp2_with fail;refine(mP W).mono ?_;rintro e w1 ⟨rfl,hb1⟩;have hB1:=Lib.hid hb1;clear hb1;go_wp2_with fail;go_ret;exact⟨rfl,hB1.out⟩
 by_cases hu:t.size≤50
 case neg=>
  go_enter Tryz.func3,Tryz.ntmps3;go_wp2_with fail;refine(mP W).mono ?_;rintro e w1 ⟨rfl,hb1⟩;have hB1:=Lib.hid hb1;clear hb1;go_wp2_with fail;go_ret;exact⟨rfl,hB1.out⟩
 obtain⟨u,htu⟩:=EN t;have Gn:=Lib.hid htu;clear htu;go_enter Tryz.func3,Tryz.ntmps3;go_wp2_with fail;refine(mP W).mono ?_;rintro e w1 ⟨rfl,hb1⟩;obtain⟨f,a,b,zn⟩:∃f a b,funcF s.data.toList=(f,a,b):=⟨_,_,_,rfl⟩
 have hwf:WfS f.body:=by have:=(xQ s.data.toList).body;rw[zn]at this;exact this
 have cF:=Lib.hid ((rV w1 s hs'.out).mono fun e w' h=>(h.out zn).num);have hwf':=Lib.hid hwf;have hB1:=Lib.hid hb1;obtain⟨⟨r,ra,rb⟩,hr⟩:∃y,y=bK f u:=⟨_,rfl⟩;obtain⟨⟨q,qa,qb⟩,hq⟩:∃y,y=bK f f.nm:=⟨_,rfl⟩;have hr':=Lib.hid hr.symm;have hq':=Lib.hid hq.symm;clear hb1 zn hwf hr hq;go_wp2_with fail;refine cF.out.mono ?_;clear cF
 rintro e w2 ⟨A1,A2,A3,An1,An2,An3,Ac1,Ac2,Ac3,rfl,hF2,hb2⟩;have hX2:=jH.new hF2;have hbn:=aA w2 (.cells #[.string (ay f.nm),.slice A1 An1 Ac1,.slice A2 An2 Ac2,.slice A3 An3 Ac3] 26);obtain⟨w3,hw2⟩:∃x,x=w2.alloc (.cells #[.string (ay f.nm),.slice A1 An1 Ac1,.slice A2 An2 Ac2,.slice A3 An3 Ac3] 26):=⟨_,rfl⟩
 obtain⟨g3,hg2⟩:∃x,x=w2.heap.size:=⟨_,rfl⟩;rw[←hw2,←hg2]at hX2;rw[←hw2]at hbn;have hst2:=hb2.trans (hbn.mono hb2.size);have hB3:=Lib.hid (hB1.out.trans (hst2.mono hB1.out.size));have hY2:=Lib.hid hX2;have hfo:=Lib.hid hw2.symm;have hgo:=Lib.hid hg2.symm;clear hF2 hb2 hbn hst2 hw2 hg2 hX2 hB1;by_cases hb0:b=0
 case neg=>
  have hbz:((b:Int) !=0)=true:=by simp;omega
  clear hb0;go_upto_region 6 with(fail);rw[hfo.out,hgo.out];clear hfo hgo;go_wp2_with fail;go_ret;exact⟨rfl,hB3.out⟩
 subst hb0;go_upto_region 6 with(fail);rw[hfo.out,hgo.out];clear hfo hgo;have cR:=lF w3 hr'.out hY2.out.at_;rw[←Gn.out]at cR;replace cR:=Lib.hid cR;obtain⟨q0,q1,q2,q3,ql⟩:=hY2.out.facts;go_wp2_with fail;refine cR.out.mono ?_;clear cR q0 q1 q2 q3 ql;rintro e w4 ⟨B1,B2,B3,Bn1,Bn2,Bn3,Bc1,Bc2,Bc3,rfl,hF4,hb4⟩;have hX4:=jH.new hF4
 have hbn:=aA w4 (.cells #[.string (ay r.nm),.slice B1 Bn1 Bc1,.slice B2 Bn2 Bc2,.slice B3 Bn3 Bc3] 26);obtain⟨w5,hw4⟩:∃x,x=w4.alloc (.cells #[.string (ay r.nm),.slice B1 Bn1 Bc1,.slice B2 Bn2 Bc2,.slice B3 Bn3 Bc3] 26):=⟨_,rfl⟩;obtain⟨g5,hg4⟩:∃x,x=w4.heap.size:=⟨_,rfl⟩;rw[←hw4,←hg4]at hX4;rw[←hw4]at hbn;have hst4:=hb4.trans (hbn.mono hb4.size)
 have hB5:=Lib.hid (hB3.out.trans (hst4.mono hB3.out.size));replace hY2:=Lib.hid (hY2.out.below hst4);have hY4:=Lib.hid hX4;have hfo:=Lib.hid hw4.symm;have hgo:=Lib.hid hg4.symm;clear hF4 hb4 hbn hst4 hw4 hg4 hX4 hB3;go_upto_region 9 with(fail);rw[hfo.out,hgo.out];clear hfo hgo;have cR:=jQ w5 hwf'.out hr'.out hY2.out.at_;rw[←Gn.out]at cR;replace cR:=Lib.hid cR
 obtain⟨q0,q1,q2,q3,ql⟩:=hY2.out.facts;go_wp2_with fail;refine cR.out.mono ?_;clear cR q0 q1 q2 q3 ql;rintro e w6 ⟨D1,D2,D3,Dn1,Dn2,Dn3,Dc1,Dc2,Dc3,rfl,hF6,hb6⟩;have hX6:=jH.new hF6;have hbn:=aA w6 (.cells #[.string (ay r.nm),.slice D1 Dn1 Dc1,.slice D2 Dn2 Dc2,.slice D3 Dn3 Dc3] 26)
 obtain⟨w7,hw6⟩:∃x,x=w6.alloc (.cells #[.string (ay r.nm),.slice D1 Dn1 Dc1,.slice D2 Dn2 Dc2,.slice D3 Dn3 Dc3] 26):=⟨_,rfl⟩;obtain⟨g7,hg6⟩:∃x,x=w6.heap.size:=⟨_,rfl⟩;rw[←hw6,←hg6]at hX6;rw[←hw6]at hbn;have hst6:=hb6.trans (hbn.mono hb6.size);have hB7:=Lib.hid (hB5.out.trans (hst6.mono hB5.out.size));replace hY2:=Lib.hid (hY2.out.below hst6)
 replace hY4:=Lib.hid (hY4.out.below hst6);have hY6:=Lib.hid hX6;have hfo:=Lib.hid hw6.symm;have hgo:=Lib.hid hg6.symm;clear hF6 hb6 hbn hst6 hw6 hg6 hX6 hB5;go_upto_region 10 with(fail);rw[hfo.out,hgo.out];clear hfo hgo;have cR:=lF w7 hq'.out hY2.out.at_;replace cR:=Lib.hid cR;obtain⟨q0,q1,q2,q3,ql⟩:=hY2.out.facts;go_wp2_with fail;refine cR.out.mono ?_;clear cR q0 q1 q2 q3 ql
 rintro e w8 ⟨E1,E2,E3,En1,En2,En3,Ec1,Ec2,Ec3,rfl,hF8,hb8⟩;have hX8:=jH.new hF8;have hbn:=aA w8 (.cells #[.string (ay q.nm),.slice E1 En1 Ec1,.slice E2 En2 Ec2,.slice E3 En3 Ec3] 26);obtain⟨w9,hw8⟩:∃x,x=w8.alloc (.cells #[.string (ay q.nm),.slice E1 En1 Ec1,.slice E2 En2 Ec2,.slice E3 En3 Ec3] 26):=⟨_,rfl⟩
 obtain⟨g9,hg8⟩:∃x,x=w8.heap.size:=⟨_,rfl⟩;rw[←hw8,←hg8]at hX8;rw[←hw8]at hbn;have hst8:=hb8.trans (hbn.mono hb8.size);have hB9:=Lib.hid (hB7.out.trans (hst8.mono hB7.out.size));replace hY2:=Lib.hid (hY2.out.below hst8);replace hY4:=Lib.hid (hY4.out.below hst8);replace hY6:=Lib.hid (hY6.out.below hst8);have hY8:=Lib.hid hX8;have hfo:=Lib.hid hw8.symm
 have hgo:=Lib.hid hg8.symm;clear hF8 hb8 hbn hst8 hw8 hg8 hX8 hB7;go_upto_region 11 with(fail);rw[hfo.out,hgo.out];clear hfo hgo;have cR:=jQ w9 hwf'.out hq'.out hY2.out.at_;replace cR:=Lib.hid cR;obtain⟨q0,q1,q2,q3,ql⟩:=hY2.out.facts;go_wp2_with fail;refine cR.out.mono ?_;clear cR q0 q1 q2 q3 ql;rintro e w10 ⟨G1,G2,G3,Gn1,Gn2,Gn3,Gc1,Gc2,Gc3,rfl,hF10,hb10⟩
 have hX10:=jH.new hF10;have hbn:=aA w10 (.cells #[.string (ay q.nm),.slice G1 Gn1 Gc1,.slice G2 Gn2 Gc2,.slice G3 Gn3 Gc3] 26);obtain⟨w11,hw10⟩:∃x,x=w10.alloc (.cells #[.string (ay q.nm),.slice G1 Gn1 Gc1,.slice G2 Gn2 Gc2,.slice G3 Gn3 Gc3] 26):=⟨_,rfl⟩;obtain⟨g11,hg10⟩:∃x,x=w10.heap.size:=⟨_,rfl⟩;rw[←hw10,←hg10]at hX10;rw[←hw10]at hbn
 have hst10:=hb10.trans (hbn.mono hb10.size);have hB11:=Lib.hid (hB9.out.trans (hst10.mono hB9.out.size));replace hY2:=Lib.hid (hY2.out.below hst10);replace hY4:=Lib.hid (hY4.out.below hst10);replace hY6:=Lib.hid (hY6.out.below hst10);replace hY8:=Lib.hid (hY8.out.below hst10);have hY10:=Lib.hid hX10;have hfo:=Lib.hid hw10.symm;have hgo:=Lib.hid hg10.symm
 clear hF10 hb10 hbn hst10 hw10 hg10 hX10 hB9;go_upto_region 12 with(fail);rw[hfo.out,hgo.out];clear hfo hgo;have c1:=Lib.hid (pG w11 hY4.out.at_ hY6.out.at_);obtain⟨x0,x1,x2,x3,xl⟩:=hY4.out.facts;obtain⟨y0,y1,y2,y3,yl⟩:=hY6.out.facts;go_wp2_with fail;refine c1.out.mono ?_;clear c1 x0 x1 x2 x3 xl y0 y1 y2 y3 yl;rintro e w12 ⟨rfl,hb12⟩
 have c2:=Lib.hid (pG w12 (hY8.out.below hb12).at_ (hY10.out.below hb12).at_);obtain⟨x0,x1,x2,x3,xl⟩:=(hY8.out.below hb12).facts;obtain⟨y0,y1,y2,y3,yl⟩:=(hY10.out.below hb12).facts;have hBn:=Lib.hid (hB11.out.trans (hb12.mono hB11.out.size));clear hb12;go_wp2_with fail;refine c2.out.mono ?_;clear c2 x0 x1 x2 x3 xl y0 y1 y2 y3 yl;rintro e wz ⟨rfl,hbz⟩
 have hBz:=Lib.hid (hBn.out.trans (hbz.mono hBn.out.size));clear hbz;go_wp2_with fail;go_ret;exact⟨rfl,hBz.out⟩
end Go.Proofs.YtpndglghpojjkaaGreat
