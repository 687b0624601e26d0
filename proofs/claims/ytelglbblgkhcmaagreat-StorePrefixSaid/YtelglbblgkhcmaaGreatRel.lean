/-
  Regions that leave their order open and whose operations call functions and make memory: ONE lexical walk over generic values serves every order.
  Each operation i has a relation V i between a world and a value, kept by whatever the other operations do (G); a relation C says what holds of the world when a set L of operations has been carried out.
-/
import Derived.WalkKit
namespace Go.Proofs.YtelglbblgkhcmaaGreat
open Go.RowKit

/-- The operations that o waits for, by its own edges. -/
def depsOf (o : Oper) : List Nat := (o.after.toList.filter fun e => Region.binds .any e).map (·.on)

/-- What holds of the values that o waits for. -/
def DepF (ops : Array Oper) (V : Nat → World → Value → Prop) (tmps : Array Value) (w : World) : List Nat → Prop
  | [] => True
  | j :: r => (match (ops[j]?).bind (·.dst) with | some d => V j w (tmps.getD d undef) | none => True) ∧ DepF ops V tmps w r

/-- What an operation yields meets R; it neither panics nor is stuck. -/
def relUpon (P : Program) (R : Value → World → Prop) : Result Next → Prop
  | .ok (.value v) w' => R v w'
  | .ok .skip w' => R undef w'
  | .ok (.enter f args) w' => Calls P f args w' fun e w'' => ∃ v, e = .returned v ∧ R v w''
  | _ => False

def Step1 (P : Program) (ops : Array Oper) (V : Nat → World → Value → Prop) (C : (Nat → Bool) → World → Prop) (G : Nat → World → World → Prop) (i : Nat) (o : Oper) (a : Act) : Prop :=
  ∀ w L, C L w → L i = false → (∀ j ∈ depsOf o, L j = true) → (∀ j oj, ops[j]? = some oj → i ∈ depsOf oj → L j = false) → DepF ops V a.tmps w (depsOf o) →
    if Region.wanted o (yielded ops a.tmps) then relUpon P (fun v w' => C (fun k => k == i || L k) w' ∧ G i w w' ∧ V i w' v) ((execOp a.eval o).run P w)
    else V i w undef ∧ C (fun k => k == i || L k) w

/-- The shape of a region that the law takes; closed: by the kernel. -/
def lexOk (ops : Array Oper) : Bool :=
  (List.range ops.size).all fun i => match ops[i]? with
    | none => true
    | some o => (depsOf o).all (· < i) && (match o.op with | .select .. => false | _ => true) &&
      (List.range ops.size).all fun j => match ops[j]? with
        | none => true
        | some oj => match oj.dst with
          | none => true
          | some d => (i == j || o.dst != some d) && (!(o.looksAt ops).contains d || (depsOf o).contains j || (depsOf oj).contains i)

section
variable {P : Program} {ops : Array Oper} {V : Nat → World → Value → Prop} {C : (Nat → Bool) → World → Prop} {G : Nat → World → World → Prop} {Q : Act → World → Prop}

theorem lexOk_spec (h : lexOk ops = true) {i : Nat} {o : Oper} (hi : ops[i]? = some o) :
    (∀ j ∈ depsOf o, j < i) ∧ (∀ cs b, o.op ≠ .select cs b) ∧ ∀ j oj d, ops[j]? = some oj → oj.dst = some d → (i ≠ j → o.dst ≠ some d) ∧ (d ∈ o.looksAt ops → j ∈ depsOf o ∨ i ∈ depsOf oj) := by
  have hlt : i < ops.size := (Array.getElem?_eq_some_iff.1 hi).1
  have h1 := List.all_eq_true.1 h i (List.mem_range.2 hlt)
  simp only [hi, Bool.and_eq_true] at h1
  obtain ⟨⟨ha, hb⟩, hc⟩ := h1
  refine ⟨fun j hj => by simpa using List.all_eq_true.1 ha j hj, fun cs b e => by rw [e] at hb; simp at hb, fun j oj d hj hd => ?_⟩
  have hjl : j < ops.size := (Array.getElem?_eq_some_iff.1 hj).1
  have h2 := List.all_eq_true.1 hc j (List.mem_range.2 hjl)
  simp only [hj, hd, Bool.and_eq_true, Bool.or_eq_true, beq_iff_eq, bne_iff_ne, Bool.not_eq_true'] at h2
  refine ⟨fun hne => (h2.1.resolve_left hne), fun hm => ?_⟩
  rcases h2.2 with (h3 | h3) | h3
  · rw [List.contains_iff_mem.2 hm] at h3
    cases h3
  · exact .inl (List.contains_iff_mem.1 h3)
  · exact .inr (List.contains_iff_mem.1 h3)

/-- The first operations' values laid into a frame. -/
def putN (ops : Array Oper) (x : Nat → Value) (a0 : Act) : Nat → Act
  | 0 => a0
  | n + 1 => (putN ops x a0 n).put ((ops[n]?).bind (·.dst)) (x n)

theorem put_size (a : Act) (d : Option Tmp) (v : Value) : (a.put d v).tmps.size = a.tmps.size := by cases d <;> simp [Act.put]
theorem put_defers (a : Act) (d : Option Tmp) (v : Value) : (a.put d v).defers = a.defers := by cases d <;> rfl
theorem putN_size (x : Nat → Value) (a0 : Act) (n : Nat) : (putN ops x a0 n).tmps.size = a0.tmps.size := by
  induction n with
  | zero => rfl
  | succ n ih => show ((putN ops x a0 n).put _ _).tmps.size = _; rw [put_size, ih]
theorem putN_defers (x : Nat → Value) (a0 : Act) (n : Nat) : (putN ops x a0 n).defers = a0.defers := by
  induction n with
  | zero => rfl
  | succ n ih => show ((putN ops x a0 n).put _ _).defers = _; rw [put_defers, ih]
theorem put_get (a : Act) (d : Tmp) (v : Value) (t : Tmp) : (a.put (some d) v).tmps.getD t undef = if t = d ∧ t < a.tmps.size then v else a.tmps.getD t undef := by
  simp only [Act.put, Array.getD_eq_getD_getElem?, Array.getElem?_setIfInBounds]
  by_cases h : d = t
  · subst h
    by_cases h2 : d < a.tmps.size
    · simp [h2]
    · simp [h2]
  · rw [if_neg h, if_neg (fun e => h e.1.symm)]
theorem putN_other (x : Nat → Value) (a0 : Act) (n : Nat) (t : Tmp) (h : ∀ j, j < n → (ops[j]?).bind (·.dst) ≠ some t) : (putN ops x a0 n).tmps.getD t undef = a0.tmps.getD t undef := by
  induction n with
  | zero => rfl
  | succ n ih =>
    show ((putN ops x a0 n).put _ _).tmps.getD t undef = _
    rw [← ih fun j hj => h j (by omega)]
    have hn := h n (by omega)
    cases hd : (ops[n]?).bind (·.dst) with
    | none => rfl
    | some d =>
      rw [put_get, if_neg]
      rintro ⟨rfl, _⟩
      exact hn hd
theorem putN_at (x : Nat → Value) (a0 : Act) (n : Nat) (t : Tmp) (j : Nat) (hj : j < n) (hd : (ops[j]?).bind (·.dst) = some t) (huniq : ∀ k, k < n → (ops[k]?).bind (·.dst) = some t → k = j) (ht : t < a0.tmps.size) :
    (putN ops x a0 n).tmps.getD t undef = x j := by
  induction n with
  | zero => omega
  | succ n ih =>
    show ((putN ops x a0 n).put _ _).tmps.getD t undef = _
    by_cases e : j = n
    · subst e
      rw [hd, put_get, if_pos ⟨rfl, by rw [putN_size]; exact ht⟩]
    · have := ih (by omega) (fun k hk hkd => huniq k (by omega) hkd)
      rw [← this]
      cases hd2 : (ops[n]?).bind (·.dst) with
      | none => rfl
      | some d =>
        rw [put_get, if_neg]
        rintro ⟨rfl, _⟩
        exact e (huniq n (by omega) hd2).symm

/-- Where the walk stands: which operations have come up, what their values are. -/
structure Lex (ops : Array Oper) (V : Nat → World → Value → Prop) (C : (Nat → Bool) → World → Prop) (a0 : Act) (listed : Array Bool) (a : Act) (w : World) : Prop where
  cls : C (fun k => listed.getD k true) w
  lsize : listed.size = ops.size
  size : a.tmps.size = a0.tmps.size
  defers : a.defers = a0.defers
  closed : ∀ (i : Nat) o, ops[i]? = some o → listed.getD i true = true → ∀ j ∈ depsOf o, listed.getD j true = true
  done : ∀ (i : Nat) o, ops[i]? = some o → listed.getD i true = true → ∀ d, o.dst = some d → V i w (a.tmps.getD d undef)
  rest : ∀ t, (∀ (i : Nat) o, ops[i]? = some o → listed.getD i true = true → o.dst ≠ some t) → a.tmps.getD t undef = a0.tmps.getD t undef

theorem getD_out {x : Array Value} {t : Nat} (h : x.size ≤ t) : x.getD t undef = undef := by
  rw [Array.getD_eq_getD_getElem?, Array.getElem?_eq_none h]
  rfl
/-- The values that a frame holds for the operations. -/
def valsOf (ops : Array Oper) (a : Act) (k : Nat) : Value := match (ops[k]?).bind (·.dst) with | some d => a.tmps.getD d undef | none => undef

theorem putN_self {a a0 : Act} (hs : a.tmps.size = a0.tmps.size) (n : Nat) (t : Tmp) (h : ∃ j, j < n ∧ (ops[j]?).bind (·.dst) = some t) : (putN ops (valsOf ops a) a0 n).tmps.getD t undef = a.tmps.getD t undef := by
  induction n with
  | zero => obtain ⟨j, hj, _⟩ := h; omega
  | succ n ih =>
    show ((putN ops _ a0 n).put _ (valsOf ops a n)).tmps.getD t undef = _
    by_cases e : (ops[n]?).bind (·.dst) = some t
    · have hv : valsOf ops a n = a.tmps.getD t undef := by unfold valsOf; rw [e]
      rw [e, put_get, hv, putN_size]
      by_cases ht : t < a0.tmps.size
      · rw [if_pos ⟨rfl, ht⟩]
      · rw [if_neg (fun h => ht h.2), getD_out (x := (putN ops (valsOf ops a) a0 n).tmps) (t := t) (by rw [putN_size]; exact Nat.le_of_not_lt ht), getD_out (x := a.tmps) (t := t) (by rw [hs]; exact Nat.le_of_not_lt ht)]
    · have h' : ∃ j, j < n ∧ (ops[j]?).bind (·.dst) = some t := by
        obtain ⟨j, hj, hd⟩ := h
        refine ⟨j, ?_, hd⟩
        rcases Nat.lt_or_ge j n with hl | hl
        · exact hl
        · obtain rfl : j = n := by omega
          exact absurd hd e
      rw [← ih h']
      cases hd : (ops[n]?).bind (·.dst) with
      | none => rfl
      | some d =>
        rw [put_get, if_neg]
        rintro ⟨rfl, _⟩
        exact e hd

theorem get_of_getD {x y : Array Value} (hs : x.size = y.size) {t : Nat} (h : x.getD t undef = y.getD t undef) : x[t]? = y[t]? := by
  rw [Array.getD_eq_getD_getElem?, Array.getD_eq_getD_getElem?] at h
  by_cases ht : t < x.size
  · rw [Array.getElem?_eq_getElem ht, Array.getElem?_eq_getElem (by omega)] at h ⊢
    simpa using h
  · rw [Array.getElem?_eq_none (by omega), Array.getElem?_eq_none (by omega)]

theorem wanted_of {o : Oper} {a b : Act} (hs : a.tmps.size = b.tmps.size) (h : ∀ t ∈ o.looksAt ops, a.tmps.getD t undef = b.tmps.getD t undef) :
    Region.wanted o (yielded ops a.tmps) = Region.wanted o (yielded ops b.tmps) := by
  unfold Region.wanted
  cases hg : o.guard with
  | none => rfl
  | some g =>
    obtain ⟨j, want⟩ := g
    simp only
    congr 1
    unfold yielded
    cases hd : (ops[j]?).bind (·.dst) with
    | none => rfl
    | some d =>
      simp only [Option.bind_some]
      rw [get_of_getD hs (h d ?_)]
      unfold Oper.looksAt
      simp only [hg]
      refine List.mem_append_right _ ?_
      first
        | (rw [hd]; simp; done)
        | (simp [hd]; done)
        | simp_all

/-- How many operations have not come up. -/
def unlisted (n : Nat) (listed : Array Bool) : Nat := ((List.range n).filter fun i => !listed.getD i true).length

theorem unlisted_set {n : Nat} {listed : Array Bool} (hs : listed.size = n) {i : Nat} (hi : i < n) (hu : listed.getD i true = false) : unlisted n (listed.setIfInBounds i true) + 1 = unlisted n listed := by
  have key : ∀ l : List Nat, l.Nodup → (∀ k ∈ l, k < n) → ((l.filter fun k => !(listed.setIfInBounds i true).getD k true).length + (if i ∈ l then 1 else 0) = (l.filter fun k => !listed.getD k true).length) := by
    intro l
    induction l with
    | nil => simp
    | cons k l ih =>
      intro hn hl
      rw [List.nodup_cons] at hn
      have := ih hn.2 fun j hj => hl j (List.mem_cons_of_mem _ hj)
      have hg : (listed.setIfInBounds i true).getD k true = if k = i then true else listed.getD k true := by
        simp only [Array.getD_eq_getD_getElem?, Array.getElem?_setIfInBounds]
        by_cases e : i = k
        · subst e; simp [hs, hi]
        · rw [if_neg e, if_neg (fun h => e h.symm)]
      rw [List.filter_cons, List.filter_cons, hg]
      by_cases e : k = i
      · subst e
        simp only [if_true, Bool.not_true, Bool.false_eq_true, if_false, hu, Bool.not_false, List.length_cons, List.mem_cons, true_or]
        rw [if_neg hn.1] at this
        omega
      · rw [if_neg e]
        have hm : (i ∈ k :: l) ↔ i ∈ l := by simp [Ne.symm e]
        by_cases hk : listed.getD k true = true
        · simp only [hk, Bool.not_true, Bool.false_eq_true, if_false, hm]
          exact this
        · simp only [hk, Bool.not_false, if_true, List.length_cons, hm]
          omega
  have := key (List.range n) List.nodup_range (fun k hk => List.mem_range.1 hk)
  rw [if_pos (List.mem_range.2 hi)] at this
  exact this

theorem wpAny_lex {a0 : Act} {Q' : Exit → Act → World → Prop} (hok : lexOk ops = true) (hN : ∀ (i : Nat) o d, ops[i]? = some o → o.dst = some d → d < a0.tmps.size)
    (hmono : ∀ (i j : Nat) oj, ops[j]? = some oj → i ∉ depsOf oj → i ≠ j → ∀ w w' v, G i w w' → V j w v → V j w' v) (steps : ∀ x (i : Nat) o, ops[i]? = some o → Step1 P ops V C G i o (putN ops x a0 i))
    (hQ : ∀ x w, C (fun _ => true) w → (∀ (k : Nat) o, ops[k]? = some o → o.dst.isSome = true → V k w (x k)) → Q' .normal (putN ops x a0 ops.size) w) :
    ∀ (fuel : Nat) (listed : Array Bool) (a : Act) (w : World), unlisted ops.size listed = fuel → Lex ops V C a0 listed a w → wpAny P .any ops Q' fuel listed a w := by
  have hend : ∀ (listed : Array Bool) (a : Act) (w : World), (∀ i, i < ops.size → listed.getD i true = true) → Lex ops V C a0 listed a w → Q' .normal a w := by
    intro listed a w hall hl
    have hC := hl.cls
    rw [show (fun k => listed.getD k true) = fun _ => true from funext fun k => by
      by_cases hk : k < ops.size
      · exact hall k hk
      · rw [Array.getD_eq_getD_getElem?, Array.getElem?_eq_none (by rw [hl.lsize]; omega)]; rfl] at hC
    have hq := hQ (valsOf ops a) w hC fun k o hk hs => by
      obtain ⟨d, hd⟩ := Option.isSome_iff_exists.1 hs
      have := hl.done k _ hk (hall k (Array.getElem?_eq_some_iff.1 hk).1) d hd
      unfold valsOf
      rw [hk]
      simp only [Option.bind_some, hd]
      exact this
    have e : putN ops (valsOf ops a) a0 ops.size = a := by
      have hsz : (putN ops (valsOf ops a) a0 ops.size).tmps.size = a.tmps.size := by rw [putN_size, hl.size]
      have hd : (putN ops (valsOf ops a) a0 ops.size).defers = a.defers := by rw [putN_defers, hl.defers]
      have ht : (putN ops (valsOf ops a) a0 ops.size).tmps = a.tmps := by
        apply Array.ext_getElem?
        intro t
        apply get_of_getD hsz
        by_cases hw : ∃ j, j < ops.size ∧ (ops[j]?).bind (·.dst) = some t
        · exact putN_self hl.size _ _ hw
        · rw [putN_other _ _ _ _ (fun j hj hd => hw ⟨j, hj, hd⟩)]
          exact (hl.rest t fun i o hi _ hd => hw ⟨i, (Array.getElem?_eq_some_iff.1 hi).1, by rw [hi]; exact hd⟩).symm
      cases h1 : putN ops (valsOf ops a) a0 ops.size
      cases a
      simp only [h1] at hd ht
      rw [hd, ht]
    rw [e] at hq
    exact hq
  intro fuel
  induction fuel with
  | zero =>
    intro listed a w hu hl
    have hall : ∀ i, i < ops.size → listed.getD i true = true := by
      intro i hi
      have := List.eq_nil_of_length_eq_zero hu
      have h2 := List.filter_eq_nil_iff.1 this i (List.mem_range.2 hi)
      simpa using h2
    refine ⟨?_, hend listed a w hall hl⟩
    unfold Region.ready
    rw [List.filter_eq_nil_iff]
    intro i hi
    simp [hall i (List.mem_range.1 hi)]
  | succ fuel ih =>
    intro listed a w hu hl
    refine ⟨fun hr => hend listed a w ?_ hl, fun i hi => ?_⟩
    · have hall : ∀ n, ∀ i, i < n → i < ops.size → listed.getD i true = true := by
        intro n
        induction n with
        | zero => intro i h; omega
        | succ n ihn =>
          intro i hin hio
          by_cases hlt : i < n
          · exact ihn i hlt hio
          · obtain rfl : i = n := by omega
            unfold Region.ready at hr
            have h2 := List.filter_eq_nil_iff.1 hr i (List.mem_range.2 hio)
            cases hb : listed.getD i true with
            | true => rfl
            | false =>
              exfalso
              apply h2
              have hoi : ops[i]? = some ops[i] := Array.getElem?_eq_getElem hio
              have hdeps := (lexOk_spec hok hoi).1
              rw [hb, hoi]
              simp only [Bool.not_false, Bool.true_and, Option.map_some, Option.getD_some]
              rw [Array.all_eq_true_iff_forall_mem]
              intro e he
              cases hbn : Region.binds .any e with
              | false => rfl
              | true =>
                have hm : e.on ∈ depsOf ops[i] := List.mem_map.2 ⟨e, List.mem_filter.2 ⟨by simpa using he, hbn⟩, rfl⟩
                have h3 := ihn e.on (hdeps _ hm) (by have := hdeps _ hm; omega)
                have h4 : e.on < listed.size := by rw [hl.lsize]; have := hdeps _ hm; omega
                simp only [Array.getD_eq_getD_getElem?, Array.getElem?_eq_getElem h4] at h3 ⊢
                simpa using h3
      exact fun i hi => hall (i + 1) i (by omega) hi
    · unfold Region.ready at hi
      obtain ⟨hir, hcond⟩ := List.mem_filter.1 hi
      have hio := List.mem_range.1 hir
      have hoi : ops[i]? = some ops[i] := Array.getElem?_eq_getElem hio
      generalize ops[i] = o at hoi
      simp only [hoi, Option.map_some, Option.getD_some, Bool.and_eq_true, Bool.not_eq_true'] at hcond
      obtain ⟨hun, hafter⟩ := hcond
      obtain ⟨hdlt, hsel, hshape⟩ := lexOk_spec hok hoi
      have hdeps : ∀ j ∈ depsOf o, listed.getD j true = true := by
        intro j hj
        obtain ⟨e, he, rfl⟩ := List.mem_map.1 hj
        obtain ⟨he1, he2⟩ := List.mem_filter.1 he
        have h3 := (Array.all_eq_true_iff_forall_mem.1 hafter) e (by simpa using he1)
        rw [he2] at h3
        simp only [Bool.not_true, Bool.false_or] at h3
        have h4 : e.on < listed.size := by rw [hl.lsize]; have := hdlt _ hj; omega
        simp only [Array.getD_eq_getD_getElem?, Array.getElem?_eq_getElem h4] at h3 ⊢
        simpa using h3
      have hnext : ∀ j oj, ops[j]? = some oj → i ∈ depsOf oj → listed.getD j true = false := by
        intro j oj hj hij
        cases hb : listed.getD j true with
        | false => rfl
        | true =>
          have := hl.closed j oj hj hb i hij
          rw [hun] at this
          cases this
      let x := valsOf ops a
      have hlook : ∀ t ∈ o.looksAt ops, (putN ops x a0 i).tmps.getD t undef = a.tmps.getD t undef := by
        intro t ht
        by_cases hw : ∃ j, j < i ∧ (ops[j]?).bind (·.dst) = some t
        · exact putN_self hl.size _ _ hw
        · rw [putN_other _ _ _ _ (fun j hj hd => hw ⟨j, hj, hd⟩)]
          refine (hl.rest t fun k ok hk hlk hdk => ?_).symm
          rcases (hshape k ok t hk hdk).2 ht with h1 | h1
          · exact hw ⟨k, hdlt k h1, by rw [hk]; exact hdk⟩
          · have := hl.closed k ok hk hlk i h1
            rw [hun] at this
            cases this
      have hssz : (putN ops x a0 i).tmps.size = a.tmps.size := by rw [putN_size, hl.size]
      have hex : execOp (putN ops x a0 i).eval o = execOp a.eval o := execOp_congr o hsel fun y hy => by
        cases y with
        | tmp t =>
          have : t ∈ o.looksAt ops := List.mem_append_left _ (List.mem_filterMap.2 ⟨.tmp t, by simpa using hy, rfl⟩)
          have h5 := hlook t this
          simpa [Act.eval] using h5
        | _ => rfl
      have hwt := wanted_of (ops := ops) (o := o) hssz hlook
      have hdepF : ∀ l : List Nat, (∀ j ∈ l, j ∈ depsOf o) → DepF ops V (putN ops x a0 i).tmps w l := by
        intro l
        induction l with
        | nil => intro _; trivial
        | cons j l ihl =>
          intro hj
          refine ⟨?_, ihl fun k hk => hj k (List.mem_cons_of_mem _ hk)⟩
          have hjd := hj j (List.mem_cons_self ..)
          have hji := hdlt j hjd
          have hoj : ops[j]? = some ops[j] := Array.getElem?_eq_getElem (by omega)
          have hd := hl.done j _ hoj (hdeps j hjd)
          cases hdst : (ops[j]?).bind (·.dst) with
          | none => trivial
          | some d =>
            show V j w _
            rw [hoj] at hdst
            simp only [Option.bind_some] at hdst
            rw [putN_self hl.size i d ⟨j, hji, by rw [hoj]; exact hdst⟩]
            exact hd d hdst
      have hst := steps x i o hoi w (fun k => listed.getD k true) hl.cls hun hdeps hnext (hdepF _ fun _ h => h)
      rw [hwt, hex] at hst
      have hset : ∀ k, (listed.setIfInBounds i true).getD k true = (k == i || listed.getD k true) := by
        intro k
        simp only [Array.getD_eq_getD_getElem?, Array.getElem?_setIfInBounds]
        by_cases e : i = k
        · subst e; simp [hl.lsize, hio]
        · rw [if_neg e]
          simp [Ne.symm e]
      have go : ∀ v w', C (fun k => k == i || listed.getD k true) w' → (∀ (k : Nat) ok, ops[k]? = some ok → i ∉ depsOf ok → i ≠ k → ∀ u, V k w u → V k w' u) → V i w' v → wpAny P .any ops Q' fuel (listed.setIfInBounds i true) (a.put o.dst v) w' := by
        intro v w' hC hm hV
        apply ih
        · have := unlisted_set hl.lsize hio hun
          omega
        · refine ⟨?_, by simp [hl.lsize], by rw [put_size]; exact hl.size, by rw [put_defers]; exact hl.defers, ?_, ?_, ?_⟩
          · rw [show (fun k => (listed.setIfInBounds i true).getD k true) = fun k => k == i || listed.getD k true from funext hset]
            exact hC
          · intro k ok hk hlk j hj
            rw [hset] at hlk ⊢
            by_cases e : k = i
            · subst e
              rw [hoi] at hk
              cases hk
              rw [hdeps j hj]
              simp
            · have : listed.getD k true = true := by simpa [e] using hlk
              rw [hl.closed k ok hk this j hj]
              simp
          · intro k ok hk hlk d hdst
            rw [hset] at hlk
            by_cases e : k = i
            · subst e
              rw [hoi] at hk
              cases hk
              rw [hdst, put_get, if_pos ⟨rfl, by rw [hl.size]; exact hN k o d hoi hdst⟩]
              exact hV
            · have hlk' : listed.getD k true = true := by simpa [e] using hlk
              have hnd : i ∉ depsOf ok := fun h => by
                have := hl.closed k ok hk hlk' i h
                rw [hun] at this
                cases this
              have := hm k ok hk hnd (Ne.symm e) _ (hl.done k ok hk hlk' d hdst)
              have hne := (hshape k ok d hk hdst).1 (Ne.symm e)
              cases hd2 : o.dst with
              | none => exact this
              | some d2 =>
                rw [put_get, if_neg]
                · exact this
                · rintro ⟨rfl, _⟩
                  exact hne hd2
          · intro t ht
            have h1 := hl.rest t fun k ok hk hlk => ht k ok hk (by rw [hset, hlk]; simp)
            have h2 := ht i o hoi (by rw [hset]; simp)
            rw [← h1]
            cases hd2 : o.dst with
            | none => rfl
            | some d2 =>
              rw [put_get, if_neg]
              rintro ⟨rfl, _⟩
              exact h2 hd2
      unfold wpOp
      simp only [hoi]
      split at hst
      · rename_i hw
        rw [if_pos hw]
        left
        unfold Oper.wp
        generalize (execOp a.eval o).run P w = r at hst
        cases r with
        | halt h w' => exact hst.elim
        | ok n w' =>
          cases n with
          | value v => exact go v w' hst.1 (fun k ok hk hnd hne u => hmono i k ok hk hnd hne w w' u hst.2.1) hst.2.2
          | skip => exact go undef w' hst.1 (fun k ok hk hnd hne u => hmono i k ok hk hnd hne w w' u hst.2.1) hst.2.2
          | enter f args =>
            refine Calls.mono (show Calls P f args w' _ from hst) ?_
            rintro e w'' ⟨v, rfl, h1, h2, h3⟩
            exact go v w'' h1 (fun k ok hk hnd hne u => hmono i k ok hk hnd hne w w'' u h2) h3
          | _ => exact (show False from hst).elim
      · rename_i hw
        rw [if_neg hw]
        exact go undef w hst.2 (fun _ _ _ _ _ _ h => h) hst.1

/-- Is each operation's slot one of the frame's? -/
def dstIn (ops : Array Oper) (n : Nat) : Bool := ops.toList.all fun o => match o.dst with | some d => decide (d < n) | none => true

theorem DepF.get {tmps : Array Value} {w : World} {l : List Nat} (h : DepF ops V tmps w l) {j : Nat} (hj : l.contains j = true) {d : Tmp} (hd : (ops[j]?).bind (·.dst) = some d) : V j w (tmps.getD d undef) := by
  induction l with
  | nil => cases hj
  | cons k l ih =>
    by_cases e : j = k
    · subst e
      have := h.1
      rw [hd] at this
      exact this
    · refine ih h.2 ?_
      rw [List.contains_cons] at hj
      simpa [e] using hj
theorem relUpon_value {A B : World → Prop} {D : World → Value → Prop} {r : Result Next} {v : Value} {w' : World} (hr : r = .ok (.value v) w') (h1 : A w') (h2 : B w') (h3 : D w' v) :
    relUpon P (fun v w' => A w' ∧ B w' ∧ D w' v) r := by
  subst hr
  exact ⟨h1, h2, h3⟩
theorem relUpon_skip {A B : World → Prop} {D : World → Value → Prop} {r : Result Next} {w' : World} (hr : r = .ok .skip w') (h1 : A w') (h2 : B w') (h3 : D w' undef) :
    relUpon P (fun v w' => A w' ∧ B w' ∧ D w' v) r := by
  subst hr
  exact ⟨h1, h2, h3⟩
theorem relUpon_call {A B : World → Prop} {D : World → Value → Prop} {r : Result Next} {f : FuncId} {args : Array Value} {w : World} {R : Ending → World → Prop} (hr : r = .ok (.enter f args) w) (hc : Calls P f args w R)
    (h : ∀ e w', R e w' → ∃ v, e = .returned v ∧ A w' ∧ B w' ∧ D w' v) : relUpon P (fun v w' => A w' ∧ B w' ∧ D w' v) r := by
  subst hr
  exact hc.mono h

/-! ### The law by a table: each operation alone, its operands' values behind a function -/

/-- What is told of an operation: the slots that it reads, each with the operation that writes it (none: what the frame held before); its guard's slot; operations that wait for it. -/
structure Reads where
  reads : List (Tmp × Option Nat)
  guard : Tmp := 0
  next : List Nat := []

/-- Operands read by a function on slots. -/
def evalOf (f : Tmp → Value) : Operand → Value
  | .tmp t => f t
  | .const v => v
  | .global g => .pointer (some ⟨g, 0, none⟩)
  | .func g => .func (.func g) #[] #[]

def Facts (V : Nat → World → Value → Prop) (a0 : Act) (w : World) (f : Tmp → Value) : List (Tmp × Option Nat) → Prop
  | [] => True
  | (t, some j) :: r => V j w (f t) ∧ Facts V a0 w f r
  | (t, none) :: r => f t = a0.tmps.getD t undef ∧ Facts V a0 w f r

def wantedBy (o : Oper) (v : Value) : Bool :=
  match o.guard with
  | none => true
  | some (_, want) => (match v with | .bool b => some b | _ => none) == some want

def Step2 (P : Program) (V : Nat → World → Value → Prop) (C : (Nat → Bool) → World → Prop) (G : Nat → World → World → Prop) (a0 : Act) (i : Nat) (o : Oper) (r : Reads) : Prop :=
  ∀ w L (f : Tmp → Value), C L w → L i = false → (∀ j ∈ depsOf o, L j = true) → (∀ j ∈ r.next, L j = false) → Facts V a0 w f r.reads →
    if wantedBy o (f r.guard) = true then relUpon P (fun v w' => C (fun k => k == i || L k) w' ∧ G i w w' ∧ V i w' v) ((execOp (evalOf f) o).run P w)
    else V i w undef ∧ C (fun k => k == i || L k) w

def StepAll (P : Program) (V : Nat → World → Value → Prop) (C : (Nat → Bool) → World → Prop) (G : Nat → World → World → Prop) (a0 : Act) : Nat → List Oper → List Reads → Prop
  | _, [], _ => True
  | i, o :: l, rs => Step2 P V C G a0 i o (rs.headD ⟨[], 0, []⟩) ∧ StepAll P V C G a0 (i + 1) l rs.tail

/-- The table fits the region; closed: by the kernel. -/
def tabOk (ops : Array Oper) (R : List Reads) : Bool :=
  (List.range ops.size).all fun i => match ops[i]? with
    | none => true
    | some o =>
      ((R.drop i).headD ⟨[], 0, []⟩).reads.all (fun p => match p.2 with
        | some j => (match ops[j]? with | some oj => oj.dst == some p.1 | none => false) && (depsOf o).contains j
        | none => (List.range ops.size).all fun j => match ops[j]? with | some oj => oj.dst != some p.1 || (depsOf oj).contains i | none => true) &&
      (match o.guard with
        | none => true
        | some (j, _) => match ops[j]? with | some oj => oj.dst == some ((R.drop i).headD ⟨[], 0, []⟩).guard | none => false) &&
      ((R.drop i).headD ⟨[], 0, []⟩).next.all (fun j => match ops[j]? with | some oj => (depsOf oj).contains i | none => false)

theorem StepAll.get {a0 : Act} (l : List Oper) : ∀ (R : List Reads) (i k : Nat) (o : Oper), StepAll P V C G a0 i l R → l[k]? = some o → Step2 P V C G a0 (i + k) o ((R.drop k).headD ⟨[], 0, []⟩) := by
  induction l with
  | nil => intro R i k o _ hk; simp at hk
  | cons o' l ih =>
    intro R i k o h hk
    cases k with
    | zero =>
      simp at hk
      subst hk
      exact h.1
    | succ k =>
      have h2 := ih R.tail (i + 1) k o h.2 (by simpa using hk)
      rw [List.drop_tail, Nat.add_assoc, Nat.add_comm 1 k] at h2
      exact h2

theorem evalOf_tmps (a : Act) : evalOf (fun t => a.tmps.getD t undef) = a.eval := by
  funext x
  cases x <;> rfl

theorem Facts.of {a0 a : Act} {w : World} {o : Oper} {i : Nat} (hD : DepF ops V a.tmps w (depsOf o)) (ha : ∀ t : Tmp, (∀ (j : Nat) (oj : Oper), ops[j]? = some oj → oj.dst = some t → i ∈ depsOf oj) → a.tmps.getD t undef = a0.tmps.getD t undef) :
    ∀ l : List (Tmp × Option Nat), (l.all fun p => match p.2 with
        | some j => (match ops[j]? with | some oj => oj.dst == some p.1 | none => false) && (depsOf o).contains j
        | none => (List.range ops.size).all fun j => match ops[j]? with | some oj => oj.dst != some p.1 || (depsOf oj).contains i | none => true) = true → Facts V a0 w (fun t => a.tmps.getD t undef) l := by
  intro l
  induction l with
  | nil => intro _; trivial
  | cons p l ih =>
    intro h
    rw [List.all_cons, Bool.and_eq_true] at h
    obtain ⟨t, s⟩ := p
    cases s with
    | some j =>
      simp only [Bool.and_eq_true] at h
      refine ⟨?_, ih h.2⟩
      cases hj : ops[j]? with
      | none => rw [hj] at h; exact absurd h.1.1 (by simp)
      | some oj =>
        rw [hj] at h
        exact hD.get h.1.2 (by rw [hj]; simpa using h.1.1)
    | none =>
      refine ⟨ha t fun j oj hj hd => ?_, ih h.2⟩
      have h3 := List.all_eq_true.1 h.1 j (List.mem_range.2 (Array.getElem?_eq_some_iff.1 hj).1)
      simp only [hj, hd, bne_self_eq_false, Bool.false_or] at h3
      exact List.contains_iff_mem.1 h3

theorem Step1.of {a0 : Act} {R : List Reads} (hok : lexOk ops = true) (htab : tabOk ops R = true) (hall : StepAll P V C G a0 0 ops.toList R) (x : Nat → Value) (i : Nat) (o : Oper) (hi : ops[i]? = some o) :
    Step1 P ops V C G i o (putN ops x a0 i) := by
  intro w L hC hL hd hn hD
  have hilt := (Array.getElem?_eq_some_iff.1 hi).1
  have ht := List.all_eq_true.1 htab i (List.mem_range.2 hilt)
  simp only [hi, Bool.and_eq_true] at ht
  have h2 := StepAll.get ops.toList R 0 i o hall (by simpa using hi)
  rw [Nat.zero_add] at h2
  generalize (R.drop i).headD ⟨[], 0, []⟩ = r at ht h2
  have hnx : ∀ j ∈ r.next, L j = false := fun j hj => by
    have := List.all_eq_true.1 ht.2 j hj
    cases hoj : ops[j]? with
    | none => rw [hoj] at this; exact absurd this (by simp)
    | some oj => rw [hoj] at this; exact hn j oj hoj (List.contains_iff_mem.1 this)
  have hf := Facts.of (a0 := a0) (a := putN ops x a0 i) hD (fun t h => putN_other x a0 i t fun j hj hjd => by
    cases hoj : ops[j]? with
    | none => rw [hoj] at hjd; cases hjd
    | some oj =>
      rw [hoj] at hjd
      have := (lexOk_spec hok hoj).1 i (h j oj hoj hjd)
      omega) r.reads ht.1.1
  have h3 := h2 w L (fun t => (putN ops x a0 i).tmps.getD t undef) hC hL hd hnx hf
  rw [evalOf_tmps] at h3
  have hw : Region.wanted o (yielded ops (putN ops x a0 i).tmps) = wantedBy o ((putN ops x a0 i).tmps.getD r.guard undef) := by
    unfold Region.wanted wantedBy
    cases hg : o.guard with
    | none => rfl
    | some g =>
      obtain ⟨j, want⟩ := g
      have h4 := ht.1.2
      rw [hg] at h4
      simp only at h4 ⊢
      cases hoj : ops[j]? with
      | none => rw [hoj] at h4; exact absurd h4 (by simp)
      | some oj =>
        rw [hoj] at h4
        have hdst : oj.dst = some r.guard := by simpa using h4
        unfold yielded
        simp only [hoj, Option.bind_some, hdst]
        rw [Array.getD_eq_getD_getElem?]
        cases (putN ops x a0 i).tmps[r.guard]? with
        | none => rfl
        | some v => cases v <;> rfl
  rw [hw]
  exact h3

/-- Where the frame's slots come from behind the region: an operation, or the frame before. -/
def framed (x : Nat → Value) : List (Option Nat) → List Value → List Value
  | d :: ds, v :: vs => (match d with | some j => x j | none => v) :: framed x ds vs
  | _, vs => vs
theorem framed_length (x : Nat → Value) : ∀ (ds : List (Option Nat)) (vs : List Value), (framed x ds vs).length = vs.length
  | [], vs => by cases vs <;> rfl
  | d :: ds, [] => rfl
  | d :: ds, v :: vs => by simp [framed, framed_length x ds vs]
theorem framed_get (x : Nat → Value) : ∀ (ds : List (Option Nat)) (vs : List Value) (t : Nat), t < vs.length → (framed x ds vs).getD t undef = match ds.getD t none with | some j => x j | none => vs.getD t undef
  | [], vs, t, _ => by cases vs <;> rfl
  | d :: ds, [], t, h => by simp at h
  | d :: ds, v :: vs, 0, _ => by cases d <;> rfl
  | d :: ds, v :: vs, t + 1, h => by
    have := framed_get x ds vs t (by simpa using h)
    simpa [framed] using this
/-- closed: by the kernel -/
def framedOk (ops : Array Oper) (D : List (Option Nat)) (n : Nat) : Bool :=
  (List.range n).all fun t => match D.getD t none with
    | some j => match ops[j]? with | some oj => oj.dst == some t | none => false
    | none => (List.range ops.size).all fun j => match ops[j]? with | some oj => oj.dst != some t | none => true

theorem putN_framed {a0 : Act} {D : List (Option Nat)} (hok : lexOk ops = true) (hf : framedOk ops D a0.tmps.size = true) (x : Nat → Value) : putN ops x a0 ops.size = ⟨(framed x D a0.tmps.toList).toArray, a0.defers⟩ := by
  have hd := putN_defers (ops := ops) x a0 ops.size
  have ht : (putN ops x a0 ops.size).tmps = (framed x D a0.tmps.toList).toArray := by
    apply Array.ext_getElem?
    intro t
    have hsz : (putN ops x a0 ops.size).tmps.size = (framed x D a0.tmps.toList).toArray.size := by rw [putN_size]; simp [framed_length]
    apply get_of_getD hsz
    by_cases hlt : t < a0.tmps.size
    · have h1 := List.all_eq_true.1 hf t (List.mem_range.2 hlt)
      have h2 := framed_get x D a0.tmps.toList t (by simpa using hlt)
      have h3 : (framed x D a0.tmps.toList).toArray.getD t undef = (framed x D a0.tmps.toList).getD t undef := by simp [Array.getD_eq_getD_getElem?]
      rw [h3, h2]
      cases hD : D.getD t none with
      | some j =>
        rw [hD] at h1
        simp only at h1
        cases hoj : ops[j]? with
        | none => rw [hoj] at h1; exact absurd h1 (by simp)
        | some oj =>
          rw [hoj] at h1
          have hdst : oj.dst = some t := by simpa using h1
          have hjl := (Array.getElem?_eq_some_iff.1 hoj).1
          refine putN_at x a0 ops.size t j hjl (by rw [hoj]; exact hdst) (fun k hk hkd => ?_) hlt
          cases hok2 : ops[k]? with
          | none => rw [hok2] at hkd; cases hkd
          | some ok =>
            rw [hok2] at hkd
            by_cases e : j = k
            · exact e.symm
            · exact absurd hdst (((lexOk_spec hok hoj).2.2 k ok t hok2 hkd).1 e)
      | none =>
        rw [hD] at h1
        rw [putN_other]
        · simp [Array.getD_eq_getD_getElem?]
        · intro j hj hjd
          cases hoj : ops[j]? with
          | none => rw [hoj] at hjd; cases hjd
          | some oj =>
            rw [hoj] at hjd
            have h4 := List.all_eq_true.1 h1 j (List.mem_range.2 hj)
            rw [hoj] at h4
            simp only [bne_iff_ne] at h4
            exact h4 hjd
    · rw [getD_out (x := (putN ops x a0 ops.size).tmps) (t := t) (by rw [putN_size]; omega), getD_out (x := (framed x D a0.tmps.toList).toArray) (t := t) (by simp [framed_length]; omega)]
  cases h1 : putN ops x a0 ops.size
  rw [h1] at hd ht
  simp only at hd ht
  rw [hd, ht]

/-- Each relation of the list is kept by what the other operations do, but those that it waits for. -/
def AllKept (G : Nat → World → World → Prop) : Nat → List (World → Value → Prop) → List Reads → Prop
  | _, [], _ => True
  | j, f :: r, rs => (∀ i, i ≠ j → ((rs.headD ⟨[], 0, []⟩).reads.all fun p => p.2 != some i) = true → ∀ w w' v, G i w w' → f w v → f w' v) ∧ AllKept G (j + 1) r rs.tail
theorem AllKept.get : ∀ (l : List (World → Value → Prop)) (R : List Reads) (n : Nat), AllKept G n l R → ∀ i j, i ≠ n + j → (((R.drop j).headD ⟨[], 0, []⟩).reads.all fun p => p.2 != some i) = true → ∀ w w' v, G i w w' → (l.getD j fun _ _ => True) w v → (l.getD j fun _ _ => True) w' v
  | [], _, _, _, _, _, _, _ => by intro w w' v _ _; exact trivial
  | f :: r, R, n, h, i, 0, hne, hr => h.1 i hne hr
  | f :: r, R, n, h, i, j + 1, hne, hr => AllKept.get r R.tail (n + 1) h.2 i j (by omega) (by rw [List.drop_tail]; exact hr)
theorem reads_deps {R : List Reads} (htab : tabOk ops R = true) {j : Nat} {oj : Oper} (hj : ops[j]? = some oj) {i : Nat} (hi : i ∉ depsOf oj) : (((R.drop j).headD ⟨[], 0, []⟩).reads.all fun p => p.2 != some i) = true := by
  have ht := List.all_eq_true.1 htab j (List.mem_range.2 (Array.getElem?_eq_some_iff.1 hj).1)
  simp only [hj, Bool.and_eq_true] at ht
  rw [List.all_eq_true]
  intro p hp
  have h1 := List.all_eq_true.1 ht.1.1 p hp
  obtain ⟨t, s⟩ := p
  cases s with
  | none => rfl
  | some k =>
    simp only [Bool.and_eq_true] at h1
    have h2 := List.contains_iff_mem.1 h1.2
    simp only [bne_iff_ne, ne_eq, Option.some.injEq]
    rintro rfl
    exact hi h2

/-- The law: a region that draws its order, operation by operation, by a table of who reads whom. -/
theorem wp_region_tab {id : Nat} {a0 : Act} {w : World} {Q' : Exit → Act → World → Prop} (Vs : List (World → Value → Prop)) (R : List Reads) (D : List (Option Nat)) (C : (Nat → Bool) → World → Prop) (G : Nat → World → World → Prop)
    (hm : P.follows .mixedOrders = true) (hok : lexOk ops = true) (htab : tabOk ops R = true) (hfr : framedOk ops D a0.tmps.size = true) (hN : dstIn ops a0.tmps.size = true) (hmono : AllKept G 0 Vs R)
    (h0 : C (fun k => !decide (k < ops.size)) { w with drawn := w.drawn + 1 })
    (each : StepAll P (fun i => Vs.getD i fun _ _ => True) C G a0 0 ops.toList R)
    (fin : ∀ (x : Nat → Value) w', C (fun _ => true) w' → (∀ k o, ops[k]? = some o → o.dst.isSome = true → (Vs.getD k fun _ _ => True) w' (x k)) → Q' .normal ⟨(framed x D a0.tmps.toList).toArray, a0.defers⟩ w') :
    (Code.region id ops true).wp P Q' a0 w := by
  refine wp_region_any hm (wpAny_lex (V := fun i => Vs.getD i fun _ _ => True) (C := C) (G := G) (a0 := a0) hok ?_ (fun i j oj hj hi hne => AllKept.get Vs R 0 hmono i j (by omega) (reads_deps htab hj hi)) (fun x i o hi => Step1.of hok htab each x i o hi) ?_ ops.size _ a0 _ ?_ ?_)
  · intro i o d hi hd
    have := List.all_eq_true.1 hN o (by simpa using Array.mem_of_getElem? hi)
    rw [hd] at this
    simpa using this
  · intro x w hC hV
    rw [putN_framed hok hfr]
    exact fin x w hC hV
  · unfold unlisted
    rw [List.filter_eq_self.2]
    · simp
    · intro i hi
      have := List.mem_range.1 hi
      simp [this]
  · refine ⟨?_, by simp, rfl, rfl, ?_, ?_, fun _ _ => rfl⟩
    · rw [show (fun k => (Array.replicate ops.size false).getD k true) = fun k => !decide (k < ops.size) from funext fun k => by
        rw [Array.getD_eq_getD_getElem?, Array.getElem?_replicate]
        by_cases h : k < ops.size <;> simp [h]]
      exact h0
    · intro i o hi hl
      have := (Array.getElem?_eq_some_iff.1 hi).1
      simp [this] at hl
    · intro i o hi hl
      have := (Array.getElem?_eq_some_iff.1 hi).1
      simp [this] at hl

theorem Step2.live {b : Bool} {X Y : Prop} (hb : b = true) (h : X) : if b = true then X else Y := by rw [if_pos hb]; exact h
theorem Step2.dead {b : Bool} {X A B : Prop} (hb : b = false) (h1 : B) (h2 : A) : if b = true then X else A ∧ B := by subst hb; exact ⟨h2, h1⟩
end

end Go.Proofs.YtelglbblgkhcmaaGreat
