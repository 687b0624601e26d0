/-
  The statement NamesShadow, for every input: the law returns true, and each argument reads behind the call as it read before. Its walk lies in the text NsF; here its row is laid round it.
-/
import Derived.Test.YtpndglghpojjkaaGreatPma1
import Derived.Test.YtpndglghpojjkaaGreatMNsF
set_option maxRecDepth 1000000
set_option maxHeartbeats 8000000

namespace Go.Proofs.YtpndglghpojjkaaGreat
open Go.ChangeShapes Go.WideShapes Go.ChangeAt Go.RowKit

theorem namesShadow_lifted (os:Os) (started:os.Started) (H:Type) (enc:TypeId×Value→H):
  ReturnsInHanded {} Tryz.checked os 6 .any (Rows.namesShadowSpec.pre6 enc Tryz.prog Tryz.f6 Rows.namesShadowRow.domain false) (Rows.namesShadowSpec.post enc Tryz.prog Tryz.f6 false true false false):=by
 refine returnsInHanded_of_change (C:=Tryz.checked) Tryz.own started (by kernel_rfl) Tryz.func6
  (ChangeSpec.witness6 (enc:=enc) (C:=Tryz.checked) false ⟨#[],#[.int .u8 0,.int .u8 0,.int .u8 0],[]⟩ 8 (by kernel_rfl) (by kernel_rfl) (by kernel_rfl) (by kernel_rfl)) ?_
 intro W base args ds gs before hval0 hW _ _;have hval:∀(j:Nat) t v,Tryz.f6.params[j]? =some t→args[j]? =some v→Value.okWide Tryz.prog W .any base t v:=hval0;have hW':=hW;obtain⟨p,q,hA0,hV,rfl,hfz,hnd⟩:=hW;have hA:DataW.TrodAll enc Tryz.prog W 0 (fun _=>true) true Tryz.f6.params.toList args.toList ds p:=hA0;rw[Tryz.params6]at hA hval
 obtain⟨v0,vs0,d0,ds0,p0,q0,hargs,rfl,rfl,h0,r0⟩:=trodAll_cons hA;obtain⟨v1,vs1,d1,ds1,p1,q1,rfl,rfl,rfl,h1,r1⟩:=trodAll_cons r0;obtain⟨v2,vs2,d2,ds2,p2,q2,rfl,rfl,rfl,h2,r2⟩:=trodAll_cons r1;obtain⟨rfl,rfl,rfl⟩:=trodAll_nil r2
 obtain rfl:args= #[v0,v1,v2]:=by cases args;simp_all
 obtain⟨rfl,rfl⟩:=trodVars_none hV;have o0:gQ 5 W v0:=⟨H,enc,d0,p0,base,hval 0 5 v0 rfl rfl,h0⟩;have o1:gQ 5 W v1:=⟨H,enc,d1,p1,base,hval 1 5 v1 rfl rfl,h1⟩;have o2:gQ 5 W v2:=⟨H,enc,d2,p2,base,hval 2 5 v2 rfl rfl,h2⟩;clear hA0 hval0;refine(nshadow_walk W v0 v1 v2 o0 o1 o2).mono fun e W' ⟨he,bel⟩=> ?_;subst he
 exact⟨_,rfl,_,_,_,[],_,[],hW',trodAll_mk1 (shut_bool Tryz.underlying4 _),(trodAll_cons_mk (Below.trod Tryz.laidOut (by kernel_rfl) (of_decide_eq_true (by kernel_rfl)) h0 bel (sH h0)) (trodAll_cons_mk (Below.trod Tryz.laidOut (by kernel_rfl) (of_decide_eq_true (by kernel_rfl)) h1 bel (sH h1)) (trodAll_cons_mk (Below.trod Tryz.laidOut (by kernel_rfl) (of_decide_eq_true (by kernel_rfl)) h2 bel (sH h2)) trodAll_mk0))),rfl,bel.frame _,fun h=>by cases h⟩

theorem namesShadow_proved:Rows.NamesShadowSaid:=
 OpenClaim.holds_of_wide 6 Tryz.f6 rfl rfl rfl rfl rfl rfl rfl ⟨rfl,rfl,rfl,rfl,rfl⟩ rfl rfl rfl rfl rfl (by kernel_rfl) Tryz.func6 (by kernel_rfl)
  (of_decide_eq_true (by kernel_rfl)) (by unfold Func.isWrapper;rw[if_neg (of_decide_eq_false (by kernel_rfl))];exact⟨rfl,rfl⟩)
  (fun os started H enc _=>namesShadow_lifted os started H enc)

#print axioms namesShadow_proved
end Go.Proofs.YtpndglghpojjkaaGreat
