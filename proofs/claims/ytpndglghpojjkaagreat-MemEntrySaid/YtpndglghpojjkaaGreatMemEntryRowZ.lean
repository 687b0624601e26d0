/-
  The statement MemEntry, for every input: the law returns true, and each argument reads behind the call as it read before. Its walk lies in the text MtB; here its row is laid round it.
-/
import Derived.WalkKit
import Derived.WalkSpells
import Derived.WalkLawsBesides
import Derived.Lib.Hide
import Derived.Deep.Draws
import Derived.Lib.SlBytesConst
import Derived.Test.YtpndglghpojjkaaGreatRows
import Derived.ProofKit
import Derived.OpenShut
import Derived.Deep.Matrix
import Derived.Shelf.Small.Strs
import Derived.Shelf.Sort.Plain
import Derived.Ground.Names2Prog
import Derived.Shelf.Slices.Clone
import Derived.Shelf.Slices.CompactS
import Derived.Shelf.Slices.Cells
import Derived.Shelf.Slices.In.SortNone
import Derived.Test.YtpndglghpojjkaaGreatProg
import Derived.Shelf.SlSortCmp.InsertionK
import Derived.Shelf.SlGeneric
import Derived.Shelf.Lay
import Derived.Ground.SlsfProg
import Derived.Maps.AppendAt
import Derived.Sort.LotA
import Derived.Lib.SlicesCompact
import Derived.Sort.EncStr
import Derived.Sort.OwnSorted
import Derived.Sort.Grow
import Derived.Lib.OwnBridge
import Derived.Laws.ResultCell
import Derived.Laws.Rows
import Derived.Laws.NewBlocks
import Derived.Deep.QuietTactic
import Derived.BigQuiet
import Derived.StillTailTactics
import Derived.IntWalk
import Derived.Deep.DeepCutAuto
import Derived.Maps.OwnSet
import Derived.Maps.RangeWalk
import Derived.StringKeys
import Derived.Shelf.Abstract
import Derived.OwnWalk
import Derived.Lib.SliceRun
import Derived.Lib.Walk
import Derived.Lib.AppendZerosOnto
import Derived.RegionTactic
import Derived.ChangeAlike
import Derived.BigRegion
import Derived.ArgAppend
import Derived.Sort.Walk0
import Derived.Shelf.SlIter.Nil
import Derived.Shelf.SortM.Plain
import Derived.Shelf.SortM.SortNone
import Derived.Ground.GgzProg
import Derived.Ground.SlgmProg
import Derived.Deep.Slices
import Derived.Deep.CutBlock
import Derived.Test.YtpndglghpojjkaaGreatPea1
import Derived.Test.YtpndglghpojjkaaGreatPea10
import Derived.Test.YtpndglghpojjkaaGreatPea11
import Derived.Test.YtpndglghpojjkaaGreatPea12
import Derived.Test.YtpndglghpojjkaaGreatPea13
import Derived.Test.YtpndglghpojjkaaGreatPea14
import Derived.Test.YtpndglghpojjkaaGreatPea2
import Derived.Test.YtpndglghpojjkaaGreatPea3
import Derived.Test.YtpndglghpojjkaaGreatPea4
import Derived.Test.YtpndglghpojjkaaGreatPea5
import Derived.Test.YtpndglghpojjkaaGreatPea7
import Derived.Test.YtpndglghpojjkaaGreatPea8
set_option maxRecDepth 1000000
set_option maxHeartbeats 8000000
namespace Go.Proofs.YtpndglghpojjkaaGreat
open Go.ChangeShapes Go.WideShapes Go.ChangeAt Go.RowKit
theorem memEntry_lifted (os:Os) (started:os.Started) (H:Type) (enc:TypeId×Value→H):
    ReturnsInHanded {} Tryz.checked os 7 .any (Rows.memEntrySpec.pre6 enc Tryz.prog Tryz.f7 Rows.memEntryRow.domain false) (Rows.memEntrySpec.post enc Tryz.prog Tryz.f7 false true false false):=by
  refine returnsInHanded_of_change (C:=Tryz.checked) Tryz.own started (by kernel_rfl) Tryz.func7
    (ChangeSpec.witness6 (enc:=enc) (C:=Tryz.checked) false ⟨#[],#[.int .i64 0,.slice none 0 0,.int .u8 0],[]⟩ 8 (by kernel_rfl) (by kernel_rfl) (by kernel_rfl) (by kernel_rfl)) ?_
  intro W base args ds gs before hval0 hW _ _;have hval:∀(j:Nat) t v,Tryz.f7.params[j]? =some t→args[j]? =some v→Value.okWide Tryz.prog W .any base t v:=hval0;have hW':=hW;obtain⟨p,q,hA0,hV,rfl,hfz,hnd⟩:=hW;have hA:DataW.TrodAll enc Tryz.prog W 0 (fun _=>true) true Tryz.f7.params.toList args.toList ds p:=hA0;rw[Tryz.params7]at hA hval;obtain⟨v0,vs0,d0,ds0,p0,q0,hargs,rfl,rfl,h0,r0⟩:=trodAll_cons hA;obtain⟨v1,vs1,d1,ds1,p1,q1,rfl,rfl,rfl,h1,r1⟩:=trodAll_cons r0;obtain⟨v2,vs2,d2,ds2,p2,q2,rfl,rfl,rfl,h2,r2⟩:=trodAll_cons r1;obtain⟨rfl,rfl,rfl⟩:=trodAll_nil r2
  obtain rfl:args= #[v0,v1,v2]:=by cases args;simp_all
  obtain⟨rfl,rfl⟩:=trodVars_none hV;have o0:ArgOk 3 W v0:=⟨H,enc,d0,p0,base,hval 0 3 v0 rfl rfl,h0⟩;have o1:ArgOk 37 W v1:=⟨H,enc,d1,p1,base,hval 1 37 v1 rfl rfl,h1⟩;have o2:ArgOk 5 W v2:=⟨H,enc,d2,p2,base,hval 2 5 v2 rfl rfl,h2⟩;clear hA0 hval0;refine(mentry_walk W v0 v1 v2 o0 o1 o2).mono fun e W' ⟨he,bel⟩=> ?_;subst he;exact⟨_,rfl,_,_,_,[],_,[],hW',trodAll_mk1 (shut_bool Tryz.underlying4 _),(trodAll_cons_mk (Below.trod Tryz.laidOut (by kernel_rfl) (of_decide_eq_true (by kernel_rfl)) h0 bel (arg_lt h0)) (trodAll_cons_mk (Below.trod Tryz.laidOut (by kernel_rfl) (of_decide_eq_true (by kernel_rfl)) h1 bel (arg_lt h1)) (trodAll_cons_mk (Below.trod Tryz.laidOut (by kernel_rfl) (of_decide_eq_true (by kernel_rfl)) h2 bel (arg_lt h2)) trodAll_mk0))),rfl,bel.frame _,fun h=>by cases h⟩
theorem memEntry_proved:Rows.MemEntrySaid:=
  OpenClaim.holds_of_wide 7 Tryz.f7 rfl rfl rfl rfl rfl rfl rfl ⟨rfl,rfl,rfl,rfl,rfl⟩ rfl rfl rfl rfl rfl (by kernel_rfl) Tryz.func7 (by kernel_rfl)
    (of_decide_eq_true (by kernel_rfl)) (by unfold Func.isWrapper;rw[if_neg (of_decide_eq_false (by kernel_rfl))];exact⟨rfl,rfl⟩)
    (fun os started H enc _=>memEntry_lifted os started H enc)
#print axioms memEntry_proved
end Go.Proofs.YtpndglghpojjkaaGreat
