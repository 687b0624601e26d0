/-
  2 texts of the proof, in one file: no condition.
-/
import Derived.WalkKit
import Derived.WalkSpells
import Derived.WalkLawsBesides
import Derived.Lib.Hide
import Derived.Deep.Draws
import Derived.Lib.SlBytesConst
import Derived.Test.YtpndglghpojjkaaGreatRows
import Derived.ProofKit
import Derived.OpenShut
import Derived.Deep.Matrix
import Derived.Maps.AppendAt
import Derived.Deep.QuietTactic
import Derived.BigQuiet
import Derived.StillTailTactics
import Derived.IntWalk
import Derived.Deep.DeepCutAuto
import Derived.Laws.ResultCell
import Derived.Laws.Rows
import Derived.Laws.NewBlocks
import Derived.Test.YtpndglghpojjkaaGreatProg
import Derived.Maps.OwnSet
import Derived.Maps.RangeWalk
import Derived.StringKeys
import Derived.Shelf.Abstract
import Derived.OwnWalk
import Derived.Lib.SliceRun
import Derived.Lib.Walk
import Derived.Lib.AppendZerosOnto
import Derived.Lib.SlicesCompact
import Derived.Sort.EncStr
import Derived.Shelf.Small.Strs
import Derived.Shelf.Sort.Plain
import Derived.Ground.Names2Prog
import Derived.Shelf.Slices.Clone
import Derived.Shelf.Slices.CompactS
import Derived.Shelf.Slices.Cells
import Derived.Shelf.Slices.In.SortNone
import Derived.Sort.OwnSorted
import Derived.Sort.Grow
import Derived.Lib.OwnBridge
import Derived.RegionTactic
import Derived.ChangeAlike
import Derived.BigRegion
import Derived.Shelf.SlIter.Nil
import Derived.Shelf.SortM.Plain
import Derived.Shelf.SortM.SortNone
import Derived.Ground.GgzProg
import Derived.Ground.SlgmProg
import Derived.Deep.Slices
import Derived.Test.YtpndglghpojjkaaGreatPma1
import Derived.Test.YtpndglghpojjkaaGreatPma10
import Derived.Test.YtpndglghpojjkaaGreatPma11
import Derived.Test.YtpndglghpojjkaaGreatPma12
import Derived.Test.YtpndglghpojjkaaGreatPma2
import Derived.Test.YtpndglghpojjkaaGreatPma3
import Derived.Test.YtpndglghpojjkaaGreatPma4
import Derived.Test.YtpndglghpojjkaaGreatPma5
import Derived.Test.YtpndglghpojjkaaGreatPma7
import Derived.Test.YtpndglghpojjkaaGreatPma8
import Derived.Test.YtpndglghpojjkaaGreatPma9
set_option maxRecDepth 1000000
set_option maxHeartbeats 8000000
namespace Go.Proofs.YtpndglghpojjkaaGreat
def nm3 (k:Nat):List UInt8:=if k=0 then [105]else if k=1 then [112]else [122]
def zi (m:Nat) (a b:List UInt8):List UInt8:=
 ([a++ [32,61,32]++b,a++ [32,61,32,38]++b,a++ [32,61,32,110,117,108,108],a++ [32,61,32,42]++b,[42]++a++ [32,61,32]++b,a++ [32,61,32,116,91]++b++ [93],
  a++ [91]++b++ [93,32,61,32,49],[116,91,49,93,32,61,32]++a++ [32,43,32]++b,a++ [32,61,32,103,40]++b++ [41],a++ [40]++b++ [32,43,32,49,41],[114,101,116,117,114,110,32]++a,
  [97,115,115,101,114,116,32,40]++a++ [32,61,61,32,110,117,108,108,32,124,124,32]++b++ [32,61,61,32,49,41]]:List (List UInt8)).getD m []
def qC (m:Nat) (a b:List UInt8):List UInt8:= [102,110,32,102,40,105,44,32,42,112,41,32,123,32]++zi m a b++ [59,32,125]
def FU (t:List UInt8):Bool:=(funcF t).2.2==0&&((bK (funcF t).1 [102]).2.2==0|| ((bK (funcF t).1 [102]).2.2==61&&(bK (funcF t).1 [102]).2.1==0))
theorem Bh:(List.range 12).all (fun m=>(List.range 3).all fun i=>(List.range 3).all fun j=>FU (qC m (nm3 i) (nm3 j)))=true:=by kernel_rfl
theorem DK {m i j:Nat} (hm:m<12) (hi:i<3) (hj:j<3):FU (qC m (nm3 i) (nm3 j))=true:=
 List.all_eq_true.1 (List.all_eq_true.1 (List.all_eq_true.1 Bh m (List.mem_range.2 hm)) i (List.mem_range.2 hi)) j (List.mem_range.2 hj)
theorem yV {m i j:Nat} (hm:m<12) (hi:i<3) (hj:j<3):∃f a r ra rb,funcF (qC m (nm3 i) (nm3 j))=(f,a,0)∧bK f [102]=(r,ra,rb)∧(rb=0∨rb=61∧ra=0):=by
 have h:=DK hm hi hj;unfold FU at h;simp only[Bool.and_eq_true,Bool.or_eq_true,beq_iff_eq]at h;obtain⟨h1,h2⟩:=h;exact⟨_,_,_,_,_,by rw[←h1],rfl,h2⟩
theorem DV {m i j:Nat}:(zi m (nm3 i) (nm3 j)).length≤60:=by
 have h:∀k,(nm3 k).length=1:=fun k=>by
  unfold nm3
  repeat' split
  all_goals rfl
 have ha:=h i;have hb:=h j;unfold zi;rw[List.getD_eq_getElem?_getD];rcases Nat.lt_or_ge m 12 with hm|hm
 ·rcases(show m=0∨m=1∨m=2∨m=3∨m=4∨m=5∨m=6∨m=7∨m=8∨m=9∨m=10∨m=11 by omega)with h|h|h|h|h|h|h|h|h|h|h|h
  all_goals (subst h;simp;omega)
 ·rw[List.getElem?_eq_none (by simp;omega)];simp
end Go.Proofs.YtpndglghpojjkaaGreat
namespace Go.Proofs.YtpndglghpojjkaaGreat
open Go.RowKit Go.Deep
theorem zO (k:Nat):(ay (nm3 k)).size=1:=by
 rw[oK];unfold nm3
 repeat' split
 all_goals rfl
theorem Bg (w:World) (a b:List UInt8) {m:Nat} (hm:m<12):
  ∃w',w'=w.alloc (.cells #[.string (ay a++⟨#[32,61,32]⟩++ay b),.string (ay a++⟨#[32,61,32,38]⟩++ay b),.string (ay a++⟨#[32,61,32,110,117,108,108]⟩),.string (ay a++⟨#[32,61,32,42]⟩++ay b),.string (⟨#[42]⟩++ay a++⟨#[32,61,32]⟩++ay b),.string (ay a++⟨#[32,61,32,116,91]⟩++ay b++⟨#[93]⟩),.string (ay a++⟨#[91]⟩++ay b++⟨#[93,32,61,32,49]⟩),.string (⟨#[116,91,49,93,32,61,32]⟩++ay a++⟨#[32,43,32]⟩++ay b),.string (ay a++⟨#[32,61,32,103,40]⟩++ay b++⟨#[41]⟩),.string (ay a++⟨#[40]⟩++ay b++⟨#[32,43,32,49,41]⟩),.string (⟨#[114,101,116,117,114,110,32]⟩++ay a),.string (⟨#[97,115,115,101,114,116,32,40]⟩++ay a++⟨#[32,61,61,32,110,117,108,108,32,124,124,32]⟩++ay b++⟨#[32,61,61,32,49,41]⟩)] 9)∧Below w.heap.size w w'∧w'.cell? ⟨w.heap.size,m,none⟩=some (.string (ay (zi m a b))):=by
 refine⟨_,rfl,aA w _,((Holds.new w 9 _).cell m).trans ?_⟩;rcases(show m=0∨m=1∨m=2∨m=3∨m=4∨m=5∨m=6∨m=7∨m=8∨m=9∨m=10∨m=11 by omega)with h|h|h|h|h|h|h|h|h|h|h|h
 all_goals (subst h;exact congrArg (fun s=>some (Value.string s)) (ByteArray.ext (Array.ext' (by simp[zi,ay]))))
theorem xu (W:World) (v0 v1 v2:Value) (o0:gQ 5 W v0) (o1:gQ 5 W v1) (o2:gQ 5 W v2):Calls Tryz.prog 4 #[v0,v1,v2] W fun e w'=>e= .returned (.bool true)∧Below W.heap.size W w':=by
 obtain⟨h,rfl,hh⟩:=o0.u8;obtain⟨x,rfl,hx⟩:=o1.u8;obtain⟨y,rfl,hy⟩:=o2.u8;clear o0 o1 o2;go_enter Tryz.func4,Tryz.ntmps4;go_wp2_with fail;refine(mP W).mono ?_;rintro e w1 ⟨rfl,hb1⟩;have hbn:=aA w1 (.cells #[.string ⟨#[105]⟩,.string ⟨#[112]⟩,.string ⟨#[122]⟩] 9);have hB1:=Lib.hid (hb1.trans (hbn.mono hb1.size))
 have hH:=Holds.new w1 9 #[.string ⟨#[105]⟩,.string ⟨#[112]⟩,.string ⟨#[122]⟩];obtain⟨w2,hw2⟩:∃z,z=w1.alloc (.cells #[.string ⟨#[105]⟩,.string ⟨#[112]⟩,.string ⟨#[122]⟩] 9):=⟨_,rfl⟩;obtain⟨g2,hg2⟩:∃z,z=w1.heap.size:=⟨_,rfl⟩;rw[←hw2,←hg2]at hH;have hfo:=Lib.hid hw2.symm;have hgo:=Lib.hid hg2.symm;rw[←hw2]at hB1
 have hcx:∀k,k<3→w2.cell? ⟨g2,k,none⟩=some (.string (ay (nm3 k))):=fun k hk=>by
  rcases(show k=0∨k=1∨k=2 by omega)with h|h|h
  ·subst h;exact hH.cell 0
  ·subst h;exact hH.cell 1
  ·subst h;exact hH.cell 2
 have q1:=hcx (x%3) (by omega);have q2:=hcx (y%3) (by omega);have ql:=hH.lt;clear hb1 hbn hw2 hg2 hcx hH;go_wp2_with fail;rw[hfo.out,hgo.out];clear hfo hgo;go_quiet (fail);obtain⟨w3,hw3⟩:∃z,z=w2.drewN nq:=⟨_,rfl⟩;have hB3:=Lib.hid (show Below W.heap.size W w3 by rw[hw3];exact below_drewN hB1.out _);rw[←hw3];obtain⟨i,hi⟩:∃z,z=x%3:=⟨_,rfl⟩
 obtain⟨j,hj⟩:∃z,z=y%3:=⟨_,rfl⟩;obtain⟨m,hm⟩:∃z,z=h%12:=⟨_,rfl⟩
 have hi3:i<3:=by omega
 have hj3:j<3:=by omega
 have hm3:m<12:=by omega
 rw[←hi,←hj];obtain⟨f,fa,r,ra,rb,zn,hr,hrb⟩:=yV hm3 hi3 hj3;have htl:Hid ((zi m (nm3 i) (nm3 j)).length≤60):=Lib.hid DV;obtain⟨a,ha⟩:∃z,z=nm3 i:=⟨_,rfl⟩;obtain⟨b,hb⟩:∃z,z=nm3 j:=⟨_,rfl⟩;rw[←ha,←hb]at zn htl;rw[←ha,←hb]
 have hla:(ay a).size=1:=by rw[ha];exact zO i
 have hlb:(ay b).size=1:=by rw[hb];exact zO j
 obtain⟨w4,hw4,hbn,hcell⟩:=Bg w3 a b hm3;rw[hm,hw4]at hcell;have hB4:=Lib.hid (hB3.out.trans (hbn.mono hB3.out.size));replace hw4:=Lib.hid hw4;have hm':=Lib.hid hm;have D7:=Lib.hid zn;have hr':=Lib.hid hr;have FX:=Lib.hid hrb;clear hw3 hi hj q1 q2 ql hB1 ha hb hm hx hy hbn hB3 zn hr hrb;go_upto_region 6 with(fail);rw[←hw4.out];rw[←hm'.out]
 obtain⟨t,ht⟩:∃z,z=zi m a b:=⟨_,rfl⟩;rw[←ht]at htl⊢
 have hs2:(ay t).size≤60:=by rw[oK];exact htl.out
 have hse:((⟨#[102,110,32,102,40,105,44,32,42,112,41,32,123,32]⟩:ByteArray)++ay t++⟨#[59,32,125]⟩).data.toList=qC m a b:=by rw[ht];simp[ay,qC]
 have hsl:(qC m a b).length≤80:=by have:=htl.out;rw[ht]at this;simp[qC];omega
 have hsz:((⟨#[102,110,32,102,40,105,44,32,42,112,41,32,123,32]⟩:ByteArray)++ay t++⟨#[59,32,125]⟩).size≤maxLen:=by rw[←hse,Array.length_toList]at hsl;exact Nat.le_trans hsl (by decide)
 have cF:=Lib.hid ((rV w4 _ hsz).mono fun e w' h=>(h.out (f:=f) (a:=fa) (b:=0) (by rw[hse];exact D7.out)).num);have hwf':Hid (WfS f.body):=Lib.hid (by have:=(xQ (qC m a b)).body;rw[D7.out]at this;exact this);clear hcell hw4 ht hse hsl hsz hla hlb hm' D7 hi3 hj3 hm3 hh;go_wp2_with fail;refine cF.out.mono ?_;clear cF
 rintro e w5 ⟨A1,A2,A3,An1,An2,An3,Ac1,Ac2,Ac3,rfl,hF5,hb5⟩;have hX5:=jH.new hF5;have hbn:=aA w5 (.cells #[.string (ay f.nm),.slice A1 An1 Ac1,.slice A2 An2 Ac2,.slice A3 An3 Ac3] 26);obtain⟨w6,hw5⟩:∃x,x=w5.alloc (.cells #[.string (ay f.nm),.slice A1 An1 Ac1,.slice A2 An2 Ac2,.slice A3 An3 Ac3] 26):=⟨_,rfl⟩
 obtain⟨g6,hg5⟩:∃x,x=w5.heap.size:=⟨_,rfl⟩;rw[←hw5,←hg5]at hX5;rw[←hw5]at hbn;have hst5:=hb5.trans (hbn.mono hb5.size);have hB6:=Lib.hid (hB4.out.trans (hst5.mono hB4.out.size));have hY5:=Lib.hid hX5;have hfo:=Lib.hid hw5.symm;have hgo:=Lib.hid hg5.symm;clear hF5 hb5 hbn hst5 hw5 hg5 hX5 hB4;go_upto_region 7 with(fail);rw[hfo.out,hgo.out];clear hfo hgo
 have cR:=lF w6 hr'.out hY5.out.at_;rw[show ay [102]=⟨#[102]⟩from rfl]at cR;replace cR:=Lib.hid cR;obtain⟨q0,q1,q2,q3,ql⟩:=hY5.out.facts;go_wp2_with fail;refine cR.out.mono ?_;clear cR q0 q1 q2 q3 ql;rintro e w7 ⟨B1,B2,B3,Bn1,Bn2,Bn3,Bc1,Bc2,Bc3,rfl,hF7,hb7⟩;have hX7:=jH.new hF7
 have hbn:=aA w7 (.cells #[.string (ay r.nm),.slice B1 Bn1 Bc1,.slice B2 Bn2 Bc2,.slice B3 Bn3 Bc3] 26);obtain⟨w8,hw7⟩:∃x,x=w7.alloc (.cells #[.string (ay r.nm),.slice B1 Bn1 Bc1,.slice B2 Bn2 Bc2,.slice B3 Bn3 Bc3] 26):=⟨_,rfl⟩;obtain⟨g8,hg7⟩:∃x,x=w7.heap.size:=⟨_,rfl⟩;rw[←hw7,←hg7]at hX7;rw[←hw7]at hbn;have hst7:=hb7.trans (hbn.mono hb7.size)
 have hB8:=Lib.hid (hB6.out.trans (hst7.mono hB6.out.size));replace hY5:=Lib.hid (hY5.out.below hst7);have hY7:=Lib.hid hX7;have hfo:=Lib.hid hw7.symm;have hgo:=Lib.hid hg7.symm;clear hF7 hb7 hbn hst7 hw7 hg7 hX7 hB6;go_upto_region 10 with(fail);rw[hfo.out,hgo.out];clear hfo hgo;have cR:=jQ w8 hwf'.out hr'.out hY5.out.at_;rw[show ay [102]=⟨#[102]⟩from rfl]at cR
 replace cR:=Lib.hid cR;obtain⟨q0,q1,q2,q3,ql⟩:=hY5.out.facts;go_wp2_with fail;refine cR.out.mono ?_;clear cR q0 q1 q2 q3 ql;rintro e w9 ⟨D1,D2,D3,Dn1,Dn2,Dn3,Dc1,Dc2,Dc3,rfl,hF9,hb9⟩;have hX9:=jH.new hF9;have hbn:=aA w9 (.cells #[.string (ay r.nm),.slice D1 Dn1 Dc1,.slice D2 Dn2 Dc2,.slice D3 Dn3 Dc3] 26)
 obtain⟨w10,hw9⟩:∃x,x=w9.alloc (.cells #[.string (ay r.nm),.slice D1 Dn1 Dc1,.slice D2 Dn2 Dc2,.slice D3 Dn3 Dc3] 26):=⟨_,rfl⟩;obtain⟨g10,hg9⟩:∃x,x=w9.heap.size:=⟨_,rfl⟩;rw[←hw9,←hg9]at hX9;rw[←hw9]at hbn;have hst9:=hb9.trans (hbn.mono hb9.size);have hB10:=Lib.hid (hB8.out.trans (hst9.mono hB8.out.size));replace hY5:=Lib.hid (hY5.out.below hst9)
 replace hY7:=Lib.hid (hY7.out.below hst9);have hY9:=Lib.hid hX9;have hfo:=Lib.hid hw9.symm;have hgo:=Lib.hid hg9.symm;clear hF9 hb9 hbn hst9 hw9 hg9 hX9 hB8;go_upto_region 11 with(fail);rw[hfo.out,hgo.out];clear hfo hgo;have c1:=Lib.hid (pG w10 hY7.out.at_ hY9.out.at_);obtain⟨x0,x1,x2,x3,xl⟩:=hY7.out.facts;obtain⟨y0,y1,y2,y3,yl⟩:=hY9.out.facts
 rcases FX.out with h0| ⟨h0,h1⟩
 ·subst h0;clear FX hr' hY5;go_wp2_with fail;refine c1.out.mono ?_;clear c1 x0 x1 x2 x3 xl y0 y1 y2 y3 yl;rintro e wz ⟨rfl,hbz⟩;have hBz:=Lib.hid (hB10.out.trans (hbz.mono hB10.out.size));clear hbz;go_wp2_with fail;go_ret;exact⟨rfl,hBz.out⟩
 ·subst h0 h1;clear FX hr' hY5;go_wp2_with fail;refine c1.out.mono ?_;clear c1 x0 x1 x2 x3 xl y0 y1 y2 y3 yl;rintro e wz ⟨rfl,hbz⟩;have hBz:=Lib.hid (hB10.out.trans (hbz.mono hB10.out.size));clear hbz;go_wp2_with fail;go_ret;exact⟨rfl,hBz.out⟩
end Go.Proofs.YtpndglghpojjkaaGreat
