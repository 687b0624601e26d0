/-
  As text Rel, but a value's relation may speak of the operations that have been carried out (L): what holds until an operation that takes the value has run need not be kept behind it.
-/
import Derived.Test.YtelglbblgkhcmaaGreatRel
namespace Go.Proofs.YtelglbblgkhcmaaGreat
open Go.RowKit

/-- What holds of the values that o waits for. -/
def DepL (ops : Array Oper) (V : Nat → (Nat → Bool) → World → Value → Prop) (L : Nat → Bool) (tmps : Array Value) (w : World) : List Nat → Prop
  | [] => True
  | j :: r => (match (ops[j]?).bind (·.dst) with | some d => V j L w (tmps.getD d undef) | none => True) ∧ DepL ops V L tmps w r

/-- Does j wait for i, by edges one behind the other (n at most)? -/
def reach (ops : Array Oper) : Nat → Nat → Nat → Bool
  | 0, _, _ => false
  | n + 1, j, i => match ops[j]? with
    | some oj => (depsOf oj).any fun d => d == i || reach ops n d i
    | none => false
theorem reach_closed {ops : Array Oper} {L : Nat → Bool} (hc : ∀ (k : Nat) ok, ops[k]? = some ok → L k = true → ∀ j ∈ depsOf ok, L j = true) : ∀ n j i, reach ops n j i = true → L j = true → L i = true := by
  intro n
  induction n with
  | zero => intro j i h; cases h
  | succ n ih =>
    intro j i h hj
    unfold reach at h
    cases ho : ops[j]? with
    | none => rw [ho] at h; cases h
    | some oj =>
      rw [ho] at h
      simp only [List.any_eq_true, Bool.or_eq_true, beq_iff_eq] at h
      obtain ⟨d, hd, h⟩ := h
      have hLd := hc j oj ho hj d hd
      rcases h with rfl | h
      · exact hLd
      · exact ih d i h hLd
/-- The table fits the region; closed: by the kernel. -/
def tabOkL (ops : Array Oper) (R : List Reads) : Bool :=
  (List.range ops.size).all fun i => match ops[i]? with
    | none => true
    | some o =>
      ((R.drop i).headD ⟨[], 0, []⟩).reads.all (fun p => match p.2 with
        | some j => (match ops[j]? with | some oj => oj.dst == some p.1 | none => false) && (depsOf o).contains j
        | none => (List.range ops.size).all fun j => match ops[j]? with | some oj => oj.dst != some p.1 || (depsOf oj).contains i | none => true) &&
      (match o.guard with
        | none => true
        | some (j, _) => match ops[j]? with | some oj => oj.dst == some ((R.drop i).headD ⟨[], 0, []⟩).guard | none => false) &&
      ((R.drop i).headD ⟨[], 0, []⟩).next.all (fun j => reach ops ops.size j i)

def StepL1 (P : Program) (ops : Array Oper) (V : Nat → (Nat → Bool) → World → Value → Prop) (C : (Nat → Bool) → World → Prop) (G : Nat → World → World → Prop) (i : Nat) (o : Oper) (a : Act) : Prop :=
  ∀ w L, C L w → L i = false → (∀ j ∈ depsOf o, L j = true) → (∀ j, reach ops ops.size j i = true → L j = false) → DepL ops V L a.tmps w (depsOf o) →
    if Region.wanted o (yielded ops a.tmps) then relUpon P (fun v w' => C (fun k => k == i || L k) w' ∧ G i w w' ∧ V i (fun k => k == i || L k) w' v) ((execOp a.eval o).run P w)
    else V i (fun k => k == i || L k) w undef ∧ C (fun k => k == i || L k) w ∧ G i w w

section
variable {P : Program} {ops : Array Oper} {V : Nat → (Nat → Bool) → World → Value → Prop} {C : (Nat → Bool) → World → Prop} {G : Nat → World → World → Prop} {Q : Act → World → Prop}

/-- Where the walk stands: which operations have come up, what their values are. -/
structure LexL (ops : Array Oper) (V : Nat → (Nat → Bool) → World → Value → Prop) (C : (Nat → Bool) → World → Prop) (a0 : Act) (listed : Array Bool) (a : Act) (w : World) : Prop where
  cls : C (fun k => listed.getD k true) w
  lsize : listed.size = ops.size
  size : a.tmps.size = a0.tmps.size
  defers : a.defers = a0.defers
  closed : ∀ (i : Nat) o, ops[i]? = some o → listed.getD i true = true → ∀ j ∈ depsOf o, listed.getD j true = true
  done : ∀ (i : Nat) o, ops[i]? = some o → listed.getD i true = true → ∀ d, o.dst = some d → V i (fun k => listed.getD k true) w (a.tmps.getD d undef)
  rest : ∀ t, (∀ (i : Nat) o, ops[i]? = some o → listed.getD i true = true → o.dst ≠ some t) → a.tmps.getD t undef = a0.tmps.getD t undef

theorem wpAny_lexL {a0 : Act} {Q' : Exit → Act → World → Prop} (hok : lexOk ops = true) (hN : ∀ (i : Nat) o d, ops[i]? = some o → o.dst = some d → d < a0.tmps.size)
    (hmono : ∀ (i j : Nat) oj, ops[j]? = some oj → i ∉ depsOf oj → i ≠ j → ∀ L w w' v, L i = false → C L w → C (fun k => k == i || L k) w' → G i w w' → V j L w v → V j (fun k => k == i || L k) w' v) (steps : ∀ x (i : Nat) o, ops[i]? = some o → StepL1 P ops V C G i o (putN ops x a0 i))
    (hQ : ∀ x w, C (fun _ => true) w → (∀ (k : Nat) o, ops[k]? = some o → o.dst.isSome = true → V k (fun _ => true) w (x k)) → Q' .normal (putN ops x a0 ops.size) w) :
    ∀ (fuel : Nat) (listed : Array Bool) (a : Act) (w : World), unlisted ops.size listed = fuel → LexL ops V C a0 listed a w → wpAny P .any ops Q' fuel listed a w := by
  have hend : ∀ (listed : Array Bool) (a : Act) (w : World), (∀ i, i < ops.size → listed.getD i true = true) → LexL ops V C a0 listed a w → Q' .normal a w := by
    intro listed a w hall hl
    have hC := hl.cls
    have hlt : (fun k => listed.getD k true) = fun _ => true := funext fun k => by
      by_cases hk : k < ops.size
      · exact hall k hk
      · rw [Array.getD_eq_getD_getElem?, Array.getElem?_eq_none (by rw [hl.lsize]; omega)]; rfl
    rw [hlt] at hC
    have hq := hQ (valsOf ops a) w hC fun k o hk hs => by
      obtain ⟨d, hd⟩ := Option.isSome_iff_exists.1 hs
      have := hl.done k _ hk (hall k (Array.getElem?_eq_some_iff.1 hk).1) d hd
      rw [hlt] at this
      unfold valsOf
      rw [hk]
      simp only [Option.bind_some, hd]
      exact this
    have e : putN ops (valsOf ops a) a0 ops.size = a := by
      have hsz : (putN ops (valsOf ops a) a0 ops.size).tmps.size = a.tmps.size := by rw [putN_size, hl.size]
      have hd : (putN ops (valsOf ops a) a0 ops.size).defers = a.defers := by rw [putN_defers, hl.defers]
      have ht : (putN ops (valsOf ops a) a0 ops.size).tmps = a.tmps := by
        apply Array.ext_getElem?
        intro t
        apply get_of_getD hsz
        by_cases hw : ∃ j, j < ops.size ∧ (ops[j]?).bind (·.dst) = some t
        · exact putN_self hl.size _ _ hw
        · rw [putN_other _ _ _ _ (fun j hj hd => hw ⟨j, hj, hd⟩)]
          exact (hl.rest t fun i o hi _ hd => hw ⟨i, (Array.getElem?_eq_some_iff.1 hi).1, by rw [hi]; exact hd⟩).symm
      cases h1 : putN ops (valsOf ops a) a0 ops.size
      cases a
      simp only [h1] at hd ht
      rw [hd, ht]
    rw [e] at hq
    exact hq
  intro fuel
  induction fuel with
  | zero =>
    intro listed a w hu hl
    have hall : ∀ i, i < ops.size → listed.getD i true = true := by
      intro i hi
      have := List.eq_nil_of_length_eq_zero hu
      have h2 := List.filter_eq_nil_iff.1 this i (List.mem_range.2 hi)
      simpa using h2
    refine ⟨?_, hend listed a w hall hl⟩
    unfold Region.ready
    rw [List.filter_eq_nil_iff]
    intro i hi
    simp [hall i (List.mem_range.1 hi)]
  | succ fuel ih =>
    intro listed a w hu hl
    refine ⟨fun hr => hend listed a w ?_ hl, fun i hi => ?_⟩
    · have hall : ∀ n, ∀ i, i < n → i < ops.size → listed.getD i true = true := by
        intro n
        induction n with
        | zero => intro i h; omega
        | succ n ihn =>
          intro i hin hio
          by_cases hlt : i < n
          · exact ihn i hlt hio
          · obtain rfl : i = n := by omega
            unfold Region.ready at hr
            have h2 := List.filter_eq_nil_iff.1 hr i (List.mem_range.2 hio)
            cases hb : listed.getD i true with
            | true => rfl
            | false =>
              exfalso
              apply h2
              have hoi : ops[i]? = some ops[i] := Array.getElem?_eq_getElem hio
              have hdeps := (lexOk_spec hok hoi).1
              rw [hb, hoi]
              simp only [Bool.not_false, Bool.true_and, Option.map_some, Option.getD_some]
              rw [Array.all_eq_true_iff_forall_mem]
              intro e he
              cases hbn : Region.binds .any e with
              | false => rfl
              | true =>
                have hm : e.on ∈ depsOf ops[i] := List.mem_map.2 ⟨e, List.mem_filter.2 ⟨by simpa using he, hbn⟩, rfl⟩
                have h3 := ihn e.on (hdeps _ hm) (by have := hdeps _ hm; omega)
                have h4 : e.on < listed.size := by rw [hl.lsize]; have := hdeps _ hm; omega
                simp only [Array.getD_eq_getD_getElem?, Array.getElem?_eq_getElem h4] at h3 ⊢
                simpa using h3
      exact fun i hi => hall (i + 1) i (by omega) hi
    · unfold Region.ready at hi
      obtain ⟨hir, hcond⟩ := List.mem_filter.1 hi
      have hio := List.mem_range.1 hir
      have hoi : ops[i]? = some ops[i] := Array.getElem?_eq_getElem hio
      generalize ops[i] = o at hoi
      simp only [hoi, Option.map_some, Option.getD_some, Bool.and_eq_true, Bool.not_eq_true'] at hcond
      obtain ⟨hun, hafter⟩ := hcond
      obtain ⟨hdlt, hsel, hshape⟩ := lexOk_spec hok hoi
      have hdeps : ∀ j ∈ depsOf o, listed.getD j true = true := by
        intro j hj
        obtain ⟨e, he, rfl⟩ := List.mem_map.1 hj
        obtain ⟨he1, he2⟩ := List.mem_filter.1 he
        have h3 := (Array.all_eq_true_iff_forall_mem.1 hafter) e (by simpa using he1)
        rw [he2] at h3
        simp only [Bool.not_true, Bool.false_or] at h3
        have h4 : e.on < listed.size := by rw [hl.lsize]; have := hdlt _ hj; omega
        simp only [Array.getD_eq_getD_getElem?, Array.getElem?_eq_getElem h4] at h3 ⊢
        simpa using h3
      have hnext : ∀ j, reach ops ops.size j i = true → listed.getD j true = false := by
        intro j hj
        cases hb : listed.getD j true with
        | false => rfl
        | true =>
          have : listed.getD i true = true := reach_closed (L := fun k => listed.getD k true) hl.closed _ _ _ hj hb
          rw [hun] at this
          cases this
      let x := valsOf ops a
      have hlook : ∀ t ∈ o.looksAt ops, (putN ops x a0 i).tmps.getD t undef = a.tmps.getD t undef := by
        intro t ht
        by_cases hw : ∃ j, j < i ∧ (ops[j]?).bind (·.dst) = some t
        · exact putN_self hl.size _ _ hw
        · rw [putN_other _ _ _ _ (fun j hj hd => hw ⟨j, hj, hd⟩)]
          refine (hl.rest t fun k ok hk hlk hdk => ?_).symm
          rcases (hshape k ok t hk hdk).2 ht with h1 | h1
          · exact hw ⟨k, hdlt k h1, by rw [hk]; exact hdk⟩
          · have := hl.closed k ok hk hlk i h1
            rw [hun] at this
            cases this
      have hssz : (putN ops x a0 i).tmps.size = a.tmps.size := by rw [putN_size, hl.size]
      have hex : execOp (putN ops x a0 i).eval o = execOp a.eval o := execOp_congr o hsel fun y hy => by
        cases y with
        | tmp t =>
          have : t ∈ o.looksAt ops := List.mem_append_left _ (List.mem_filterMap.2 ⟨.tmp t, by simpa using hy, rfl⟩)
          have h5 := hlook t this
          simpa [Act.eval] using h5
        | _ => rfl
      have hwt := wanted_of (ops := ops) (o := o) hssz hlook
      have hdepF : ∀ l : List Nat, (∀ j ∈ l, j ∈ depsOf o) → DepL ops V (fun k => listed.getD k true) (putN ops x a0 i).tmps w l := by
        intro l
        induction l with
        | nil => intro _; trivial
        | cons j l ihl =>
          intro hj
          refine ⟨?_, ihl fun k hk => hj k (List.mem_cons_of_mem _ hk)⟩
          have hjd := hj j (List.mem_cons_self ..)
          have hji := hdlt j hjd
          have hoj : ops[j]? = some ops[j] := Array.getElem?_eq_getElem (by omega)
          have hd := hl.done j _ hoj (hdeps j hjd)
          cases hdst : (ops[j]?).bind (·.dst) with
          | none => trivial
          | some d =>
            show V j (fun k => listed.getD k true) w _
            rw [hoj] at hdst
            simp only [Option.bind_some] at hdst
            rw [putN_self hl.size i d ⟨j, hji, by rw [hoj]; exact hdst⟩]
            exact hd d hdst
      have hst := steps x i o hoi w (fun k => listed.getD k true) hl.cls hun hdeps hnext (hdepF _ fun _ h => h)
      rw [hwt, hex] at hst
      have hset : ∀ k, (listed.setIfInBounds i true).getD k true = (k == i || listed.getD k true) := by
        intro k
        simp only [Array.getD_eq_getD_getElem?, Array.getElem?_setIfInBounds]
        by_cases e : i = k
        · subst e; simp [hl.lsize, hio]
        · rw [if_neg e]
          simp [Ne.symm e]
      have go : ∀ v w', C (fun k => k == i || listed.getD k true) w' → (∀ (k : Nat) ok, ops[k]? = some ok → i ∉ depsOf ok → i ≠ k → ∀ u, V k (fun k => listed.getD k true) w u → V k (fun k => k == i || listed.getD k true) w' u) → V i (fun k => k == i || listed.getD k true) w' v → wpAny P .any ops Q' fuel (listed.setIfInBounds i true) (a.put o.dst v) w' := by
        intro v w' hC hm hV
        apply ih
        · have := unlisted_set hl.lsize hio hun
          omega
        · refine ⟨?_, by simp [hl.lsize], by rw [put_size]; exact hl.size, by rw [put_defers]; exact hl.defers, ?_, ?_, ?_⟩
          · rw [show (fun k => (listed.setIfInBounds i true).getD k true) = fun k => k == i || listed.getD k true from funext hset]
            exact hC
          · intro k ok hk hlk j hj
            rw [hset] at hlk ⊢
            by_cases e : k = i
            · subst e
              rw [hoi] at hk
              cases hk
              rw [hdeps j hj]
              simp
            · have : listed.getD k true = true := by simpa [e] using hlk
              rw [hl.closed k ok hk this j hj]
              simp
          · intro k ok hk hlk d hdst
            rw [show (fun k => (listed.setIfInBounds i true).getD k true) = fun k => k == i || listed.getD k true from funext hset]
            rw [hset] at hlk
            by_cases e : k = i
            · subst e
              rw [hoi] at hk
              cases hk
              rw [hdst, put_get, if_pos ⟨rfl, by rw [hl.size]; exact hN k o d hoi hdst⟩]
              exact hV
            · have hlk' : listed.getD k true = true := by simpa [e] using hlk
              have hnd : i ∉ depsOf ok := fun h => by
                have := hl.closed k ok hk hlk' i h
                rw [hun] at this
                cases this
              have := hm k ok hk hnd (Ne.symm e) _ (hl.done k ok hk hlk' d hdst)
              have hne := (hshape k ok d hk hdst).1 (Ne.symm e)
              cases hd2 : o.dst with
              | none => exact this
              | some d2 =>
                rw [put_get, if_neg]
                · exact this
                · rintro ⟨rfl, _⟩
                  exact hne hd2
          · intro t ht
            have h1 := hl.rest t fun k ok hk hlk => ht k ok hk (by rw [hset, hlk]; simp)
            have h2 := ht i o hoi (by rw [hset]; simp)
            rw [← h1]
            cases hd2 : o.dst with
            | none => rfl
            | some d2 =>
              rw [put_get, if_neg]
              rintro ⟨rfl, _⟩
              exact h2 hd2
      unfold wpOp
      simp only [hoi]
      split at hst
      · rename_i hw
        rw [if_pos hw]
        left
        unfold Oper.wp
        generalize (execOp a.eval o).run P w = r at hst
        cases r with
        | halt h w' => exact hst.elim
        | ok n w' =>
          cases n with
          | value v => exact go v w' hst.1 (fun k ok hk hnd hne u => hmono i k ok hk hnd hne _ w w' u hun hl.cls hst.1 hst.2.1) hst.2.2
          | skip => exact go undef w' hst.1 (fun k ok hk hnd hne u => hmono i k ok hk hnd hne _ w w' u hun hl.cls hst.1 hst.2.1) hst.2.2
          | enter f args =>
            refine Calls.mono (show Calls P f args w' _ from hst) ?_
            rintro e w'' ⟨v, rfl, h1, h2, h3⟩
            exact go v w'' h1 (fun k ok hk hnd hne u => hmono i k ok hk hnd hne _ w w'' u hun hl.cls h1 h2) h3
          | _ => exact (show False from hst).elim
      · rename_i hw
        rw [if_neg hw]
        exact go undef w hst.2.1 (fun k ok hk hnd hne u => hmono i k ok hk hnd hne _ w w u hun hl.cls hst.2.1 hst.2.2) hst.1

theorem DepL.get {L : Nat → Bool} {tmps : Array Value} {w : World} {l : List Nat} (h : DepL ops V L tmps w l) {j : Nat} (hj : l.contains j = true) {d : Tmp} (hd : (ops[j]?).bind (·.dst) = some d) : V j L w (tmps.getD d undef) := by
  induction l with
  | nil => cases hj
  | cons k l ih =>
    by_cases e : j = k
    · subst e
      have := h.1
      rw [hd] at this
      exact this
    · refine ih h.2 ?_
      rw [List.contains_cons] at hj
      simpa [e] using hj
def FactsL (V : Nat → (Nat → Bool) → World → Value → Prop) (a0 : Act) (L : Nat → Bool) (w : World) (f : Tmp → Value) : List (Tmp × Option Nat) → Prop
  | [] => True
  | (t, some j) :: r => V j L w (f t) ∧ FactsL V a0 L w f r
  | (t, none) :: r => f t = a0.tmps.getD t undef ∧ FactsL V a0 L w f r

def StepL2 (P : Program) (V : Nat → (Nat → Bool) → World → Value → Prop) (C : (Nat → Bool) → World → Prop) (G : Nat → World → World → Prop) (a0 : Act) (i : Nat) (o : Oper) (r : Reads) : Prop :=
  ∀ w L (f : Tmp → Value), C L w → L i = false → (∀ j ∈ depsOf o, L j = true) → (∀ j ∈ r.next, L j = false) → FactsL V a0 L w f r.reads →
    if wantedBy o (f r.guard) = true then relUpon P (fun v w' => C (fun k => k == i || L k) w' ∧ G i w w' ∧ V i (fun k => k == i || L k) w' v) ((execOp (evalOf f) o).run P w)
    else V i (fun k => k == i || L k) w undef ∧ C (fun k => k == i || L k) w ∧ G i w w

def StepAllL (P : Program) (V : Nat → (Nat → Bool) → World → Value → Prop) (C : (Nat → Bool) → World → Prop) (G : Nat → World → World → Prop) (a0 : Act) : Nat → List Oper → List Reads → Prop
  | _, [], _ => True
  | i, o :: l, rs => StepL2 P V C G a0 i o (rs.headD ⟨[], 0, []⟩) ∧ StepAllL P V C G a0 (i + 1) l rs.tail

theorem StepAllL.get {a0 : Act} (l : List Oper) : ∀ (R : List Reads) (i k : Nat) (o : Oper), StepAllL P V C G a0 i l R → l[k]? = some o → StepL2 P V C G a0 (i + k) o ((R.drop k).headD ⟨[], 0, []⟩) := by
  induction l with
  | nil => intro R i k o _ hk; simp at hk
  | cons o' l ih =>
    intro R i k o h hk
    cases k with
    | zero =>
      simp at hk
      subst hk
      exact h.1
    | succ k =>
      have h2 := ih R.tail (i + 1) k o h.2 (by simpa using hk)
      rw [List.drop_tail, Nat.add_assoc, Nat.add_comm 1 k] at h2
      exact h2

theorem FactsL.of {L : Nat → Bool} {a0 a : Act} {w : World} {o : Oper} {i : Nat} (hD : DepL ops V L a.tmps w (depsOf o)) (ha : ∀ t : Tmp, (∀ (j : Nat) (oj : Oper), ops[j]? = some oj → oj.dst = some t → i ∈ depsOf oj) → a.tmps.getD t undef = a0.tmps.getD t undef) :
    ∀ l : List (Tmp × Option Nat), (l.all fun p => match p.2 with
        | some j => (match ops[j]? with | some oj => oj.dst == some p.1 | none => false) && (depsOf o).contains j
        | none => (List.range ops.size).all fun j => match ops[j]? with | some oj => oj.dst != some p.1 || (depsOf oj).contains i | none => true) = true → FactsL V a0 L w (fun t => a.tmps.getD t undef) l := by
  intro l
  induction l with
  | nil => intro _; trivial
  | cons p l ih =>
    intro h
    rw [List.all_cons, Bool.and_eq_true] at h
    obtain ⟨t, s⟩ := p
    cases s with
    | some j =>
      simp only [Bool.and_eq_true] at h
      refine ⟨?_, ih h.2⟩
      cases hj : ops[j]? with
      | none => rw [hj] at h; exact absurd h.1.1 (by simp)
      | some oj =>
        rw [hj] at h
        exact hD.get h.1.2 (by rw [hj]; simpa using h.1.1)
    | none =>
      refine ⟨ha t fun j oj hj hd => ?_, ih h.2⟩
      have h3 := List.all_eq_true.1 h.1 j (List.mem_range.2 (Array.getElem?_eq_some_iff.1 hj).1)
      simp only [hj, hd, bne_self_eq_false, Bool.false_or] at h3
      exact List.contains_iff_mem.1 h3

theorem StepL1.of {a0 : Act} {R : List Reads} (hok : lexOk ops = true) (htab : tabOkL ops R = true) (hall : StepAllL P V C G a0 0 ops.toList R) (x : Nat → Value) (i : Nat) (o : Oper) (hi : ops[i]? = some o) :
    StepL1 P ops V C G i o (putN ops x a0 i) := by
  intro w L hC hL hd hn hD
  have hilt := (Array.getElem?_eq_some_iff.1 hi).1
  have ht := List.all_eq_true.1 htab i (List.mem_range.2 hilt)
  simp only [hi, Bool.and_eq_true] at ht
  have h2 := StepAllL.get ops.toList R 0 i o hall (by simpa using hi)
  rw [Nat.zero_add] at h2
  generalize (R.drop i).headD ⟨[], 0, []⟩ = r at ht h2
  have hnx : ∀ j ∈ r.next, L j = false := fun j hj => hn j (List.all_eq_true.1 ht.2 j hj)
  have hf := FactsL.of (a0 := a0) (a := putN ops x a0 i) hD (fun t h => putN_other x a0 i t fun j hj hjd => by
    cases hoj : ops[j]? with
    | none => rw [hoj] at hjd; cases hjd
    | some oj =>
      rw [hoj] at hjd
      have := (lexOk_spec hok hoj).1 i (h j oj hoj hjd)
      omega) r.reads ht.1.1
  have h3 := h2 w L (fun t => (putN ops x a0 i).tmps.getD t undef) hC hL hd hnx hf
  rw [evalOf_tmps] at h3
  have hw : Region.wanted o (yielded ops (putN ops x a0 i).tmps) = wantedBy o ((putN ops x a0 i).tmps.getD r.guard undef) := by
    unfold Region.wanted wantedBy
    cases hg : o.guard with
    | none => rfl
    | some g =>
      obtain ⟨j, want⟩ := g
      have h4 := ht.1.2
      rw [hg] at h4
      simp only at h4 ⊢
      cases hoj : ops[j]? with
      | none => rw [hoj] at h4; exact absurd h4 (by simp)
      | some oj =>
        rw [hoj] at h4
        have hdst : oj.dst = some r.guard := by simpa using h4
        unfold yielded
        simp only [hoj, Option.bind_some, hdst]
        rw [Array.getD_eq_getD_getElem?]
        cases (putN ops x a0 i).tmps[r.guard]? with
        | none => rfl
        | some v => cases v <;> rfl
  rw [hw]
  exact h3

/-- Each relation of the list is kept by what the other operations do, but those that it waits for. -/
def AllKeptL (C : (Nat → Bool) → World → Prop) (G : Nat → World → World → Prop) : Nat → List ((Nat → Bool) → World → Value → Prop) → List Reads → Prop
  | _, [], _ => True
  | j, f :: r, rs => (∀ i, i ≠ j → ((rs.headD ⟨[], 0, []⟩).reads.all fun p => p.2 != some i) = true → ∀ L w w' v, L i = false → C L w → C (fun k => k == i || L k) w' → G i w w' → f L w v → f (fun k => k == i || L k) w' v) ∧ AllKeptL C G (j + 1) r rs.tail
theorem AllKeptL.get : ∀ (l : List ((Nat → Bool) → World → Value → Prop)) (R : List Reads) (n : Nat), AllKeptL C G n l R → ∀ i j, i ≠ n + j → (((R.drop j).headD ⟨[], 0, []⟩).reads.all fun p => p.2 != some i) = true → ∀ L w w' v, L i = false → C L w → C (fun k => k == i || L k) w' → G i w w' → (l.getD j fun _ _ _ => True) L w v → (l.getD j fun _ _ _ => True) (fun k => k == i || L k) w' v
  | [], _, _, _, _, _, _, _ => by intro L w w' v _ _ _ _ _; exact trivial
  | f :: r, R, n, h, i, 0, hne, hr => h.1 i hne hr
  | f :: r, R, n, h, i, j + 1, hne, hr => AllKeptL.get r R.tail (n + 1) h.2 i j (by omega) (by rw [List.drop_tail]; exact hr)
theorem reads_depsL {R : List Reads} (htab : tabOkL ops R = true) {j : Nat} {oj : Oper} (hj : ops[j]? = some oj) {i : Nat} (hi : i ∉ depsOf oj) : (((R.drop j).headD ⟨[], 0, []⟩).reads.all fun p => p.2 != some i) = true := by
  have ht := List.all_eq_true.1 htab j (List.mem_range.2 (Array.getElem?_eq_some_iff.1 hj).1)
  simp only [hj, Bool.and_eq_true] at ht
  rw [List.all_eq_true]
  intro p hp
  have h1 := List.all_eq_true.1 ht.1.1 p hp
  obtain ⟨t, s⟩ := p
  cases s with
  | none => rfl
  | some k =>
    simp only [Bool.and_eq_true] at h1
    have h2 := List.contains_iff_mem.1 h1.2
    simp only [bne_iff_ne, ne_eq, Option.some.injEq]
    rintro rfl
    exact hi h2

/-- The law: a region that draws its order, operation by operation, by a table of who reads whom. -/
theorem wp_region_tabL {id : Nat} {a0 : Act} {w : World} {Q' : Exit → Act → World → Prop} (Vs : List ((Nat → Bool) → World → Value → Prop)) (R : List Reads) (D : List (Option Nat)) (C : (Nat → Bool) → World → Prop) (G : Nat → World → World → Prop)
    (hm : P.follows .mixedOrders = true) (hok : lexOk ops = true) (htab : tabOkL ops R = true) (hfr : framedOk ops D a0.tmps.size = true) (hN : dstIn ops a0.tmps.size = true) (hmono : AllKeptL C G 0 Vs R)
    (h0 : C (fun k => !decide (k < ops.size)) { w with drawn := w.drawn + 1 })
    (each : StepAllL P (fun i => Vs.getD i fun _ _ _ => True) C G a0 0 ops.toList R)
    (fin : ∀ (x : Nat → Value) w', C (fun _ => true) w' → (∀ k o, ops[k]? = some o → o.dst.isSome = true → (Vs.getD k fun _ _ _ => True) (fun _ => true) w' (x k)) → Q' .normal ⟨(framed x D a0.tmps.toList).toArray, a0.defers⟩ w') :
    (Code.region id ops true).wp P Q' a0 w := by
  refine wp_region_any hm (wpAny_lexL (V := fun i => Vs.getD i fun _ _ _ => True) (C := C) (G := G) (a0 := a0) hok ?_ (fun i j oj hj hi hne => AllKeptL.get Vs R 0 hmono i j (by omega) (reads_depsL htab hj hi)) (fun x i o hi => StepL1.of hok htab each x i o hi) ?_ ops.size _ a0 _ ?_ ?_)
  · intro i o d hi hd
    have := List.all_eq_true.1 hN o (by simpa using Array.mem_of_getElem? hi)
    rw [hd] at this
    simpa using this
  · intro x w hC hV
    rw [putN_framed hok hfr]
    exact fin x w hC hV
  · unfold unlisted
    rw [List.filter_eq_self.2]
    · simp
    · intro i hi
      have := List.mem_range.1 hi
      simp [this]
  · refine ⟨?_, by simp, rfl, rfl, ?_, ?_, fun _ _ => rfl⟩
    · rw [show (fun k => (Array.replicate ops.size false).getD k true) = fun k => !decide (k < ops.size) from funext fun k => by
        rw [Array.getD_eq_getD_getElem?, Array.getElem?_replicate]
        by_cases h : k < ops.size <;> simp [h]]
      exact h0
    · intro i o hi hl
      have := (Array.getElem?_eq_some_iff.1 hi).1
      simp [this] at hl
    · intro i o hi hl
      have := (Array.getElem?_eq_some_iff.1 hi).1
      simp [this] at hl

theorem StepL2.dead {b : Bool} {X A B D : Prop} (hb : b = false) (h1 : B) (h2 : A) (h3 : D) : if b = true then X else A ∧ B ∧ D := by subst hb; exact ⟨h2, h1, h3⟩
/-- What holds of a value until operation n has taken it. -/
def Till (n : Nat) (R : World → Value → Prop) (L : Nat → Bool) (w : World) (v : Value) : Prop := L n = false → R w v
theorem Till.keep {n i : Nat} {R : World → Value → Prop} {L : Nat → Bool} {w w' : World} {v : Value} (h : Till n R L w v) (hk : i ≠ n → R w v → R w' v) : Till n R (fun k => k == i || L k) w' v := fun hn => by
  simp only [Bool.or_eq_false_iff, beq_eq_false_iff_ne] at hn
  exact hk (fun e => hn.1 e.symm) (h hn.2)
end

end Go.Proofs.YtelglbblgkhcmaaGreat
