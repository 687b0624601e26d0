/-
  Slices of pointers in memory; the walk of pts.Join.
-/
import Derived.Test.YtkohobkeapcpfaaPtB
namespace Go.Proofs.Ytkohobkeapcpfaa
open Go.RowKit

theorem flatMap_at {α : Type} {f : α → List Value} {C : Nat} : ∀ (l : List α) (_ : ∀ x ∈ l, (f x).length = C) {k : Nat} (hk : k < l.length) {r : Nat} {v : Value}, (f l[k])[r]? = some v → (l.flatMap f)[k * C + r]? = some v
  | [], _, k, hk, _, _, _ => absurd hk (by simp)
  | a :: l, hl, k, hk, r, v, h => by
    have hc := hl a (List.mem_cons_self ..)
    rw [List.flatMap_cons]
    cases k with
    | zero =>
      have hr : r < (f a).length := (List.getElem?_eq_some_iff.1 h).1
      rw [Nat.zero_mul, Nat.zero_add, List.getElem?_append_left hr]
      exact h
    | succ k =>
      rw [List.getElem?_append_right (by rw [Nat.add_mul]; omega), hc]
      have := flatMap_at l (fun x hx => hl x (List.mem_cons_of_mem _ hx)) (k := k) (by simpa using hk) (r := r) (v := v) (by simpa using h)
      rw [← this]
      congr 1
      rw [Nat.add_mul]
      omega
/-- The cells of the k-th element. -/
theorem Row.elem {α : Type} {f : α → List Value} {C : Nat} {w : World} {B : Nat} {A : Option Addr} {l : List α} (h : Row w B A (l.flatMap f)) (hC : ∀ x ∈ l, (f x).length = C) (hC0 : 0 < C) {k : Nat} (hk : k < l.length) :
    ∃ b off, A = some ⟨b, off, none⟩ ∧ b < B ∧ l.flatMap f ≠ [] ∧ ∀ r v, (f l[k])[r]? = some v → w.cell? ⟨b, off + k * C + r, none⟩ = some v := by
  have hne : l.flatMap f ≠ [] := fun e => by
    have h0 : (f l[k])[0]? = some ((f l[k])[0]'(by rw [hC _ (List.getElem_mem hk)]; exact hC0)) := List.getElem?_eq_getElem _
    have := flatMap_at l hC hk h0
    rw [e] at this
    cases this
  obtain ⟨b, off, e, hb, hc⟩ := h hne
  exact ⟨b, off, e, hb, hne, fun r v hv => by rw [Nat.add_assoc]; exact hc _ v (flatMap_at l hC hk hv)⟩
theorem own_low {w : World} {B : Nat} {e : TypeId} {size : Nat} {v : Value} {n : Nat} {xs : List Value} (h : w.ownsRow B e size v n xs) {k : Nat} (hk : some k = v.ownBlock) : B ≤ k := by
  rcases h.2 with ⟨rfl, _⟩ | ⟨g, cap, cur, rfl, hg, _⟩
  · simp [Value.ownBlock] at hk
  · simp [Value.ownBlock] at hk
    omega
theorem own_above {w w' : World} {Bv : Nat} {e : TypeId} {size : Nat} {v : Value} {n : Nat} {xs : List Value} {M : List (Option Nat)} (h : w.ownsRow Bv e size v n xs) (hM : Writes M w w') (hk : ∀ j, some j ∈ M → j < Bv) : w'.ownsRow Bv e size v n xs := by
  refine hM.own h ?_
  by_cases hn : v.ownBlock = none
  · exact .inl hn
  · refine .inr fun hm => ?_
    obtain ⟨j, hj⟩ := Option.ne_none_iff_exists'.1 hn
    have h1 := hk j (by rw [← hj]; exact hm)
    have h2 := own_low h hj.symm
    omega

/-- A pointer in memory: where its cells lie, their room. -/
structure Pq where
  p : Pz
  at_ : Option Addr
  cap : Nat
def Pq.cells (q : Pq) : List Value := [.bool q.p.nul, .slice q.at_ q.p.cells.length q.cap]
/-- The pointers of L lie behind A, below B. -/
def PtsL (w : World) (B : Nat) (A : Option Addr) (L : List Pq) : Prop := Row w B A (L.flatMap Pq.cells) ∧ ∀ q ∈ L, Row w B q.at_ (q.p.cells.map encStr) ∧ q.p.cells.length ≤ q.cap
theorem PtsL.below {w w' : World} {B : Nat} {A : Option Addr} {L : List Pq} (h : PtsL w B A L) (hb : Below B w w') : PtsL w' B A L :=
  ⟨h.1.below hb, fun q hq => ⟨(h.2 q hq).1.below hb, (h.2 q hq).2⟩⟩
theorem PtsL.more {w : World} {B B' : Nat} {A : Option Addr} {L : List Pq} (h : PtsL w B A L) (hB : B ≤ B') : PtsL w B' A L :=
  ⟨h.1.more hB, fun q hq => ⟨(h.2 q hq).1.more hB, (h.2 q hq).2⟩⟩
theorem PtsL.up {w w' : World} {A : Option Addr} {L : List Pq} (h : PtsL w w.heap.size A L) (hb : Below w.heap.size w w') : PtsL w' w'.heap.size A L := (h.below hb).more hb.size
theorem PtsL.at_ {w : World} {B : Nat} {A : Option Addr} {L : List Pq} (h : PtsL w B A L) {k : Nat} (hk : k < L.length) :
    ∃ b off, A = some ⟨b, off, none⟩ ∧ b < B ∧ w.cell? ⟨b, off + k * 2, none⟩ = some (.bool L[k].p.nul) ∧ w.cell? ⟨b, off + k * 2 + 1, none⟩ = some (.slice L[k].at_ L[k].p.cells.length L[k].cap) ∧ Row w B L[k].at_ (L[k].p.cells.map encStr) ∧ L[k].p.cells.length ≤ L[k].cap := by
  obtain ⟨b, off, e, hb, _, hc⟩ := Row.elem (C := 2) h.1 (fun _ _ => rfl) (by omega) hk
  have h0 := hc 0 _ rfl
  have h1 := hc 1 _ rfl
  rw [Nat.add_zero] at h0
  exact ⟨b, off, e, hb, h0, h1, (h.2 _ (List.getElem_mem hk)).1, (h.2 _ (List.getElem_mem hk)).2⟩
/-- What is joined. -/
def joinP (L : List Pq) : Pz := ⟨L.any (·.p.nul), canon (L.flatMap (·.p.cells))⟩
def slV (q : Pq) : Value := .slice q.at_ q.p.cells.length q.cap
theorem slV_one {l : List Pq} : ∀ u ∈ l.map slV, u.oneCell' = true := by
  intro u hu
  obtain ⟨x, _, rfl⟩ := List.mem_map.1 hu
  rfl
theorem Try.infoSl : (Try.prog.info? 23).map (fun i => (i.zero, i.size, i.bytes)) = some (some (.slice none 0 0), 1, 24) := by kernel_rfl
theorem flat_sum {L : List Pq} {N : Nat} (h : ∀ q ∈ L, q.p.cells.length ≤ N) : (L.flatMap (·.p.cells)).length ≤ N * L.length := by
  induction L with
  | nil => simp
  | cons q L ih =>
    have h1 := ih fun x hx => h x (List.mem_cons_of_mem _ hx)
    have h2 := h q (List.mem_cons_self ..)
    simp only [List.flatMap_cons, List.length_append, List.length_cons, Nat.mul_add]
    omega
/-- The lists' row, made by the call: as lists. -/
theorem lists_of {w : World} {B : Nat} {v : Value} {L : List Pq} (h : w.ownsRow B 23 1 v L.length (L.map slV)) (hr : ∀ q ∈ L, Row w w.heap.size q.at_ (q.p.cells.map encStr)) :
    ∃ A c, v = .slice A L.length c ∧ Lists w w.heap.size A (L.map (·.p.cells)) := by
  obtain ⟨A, c, rfl, hrow, _⟩ := own_rowA h
  refine ⟨A, c, rfl, L.map slV, by simp, hrow, fun i hi => ?_⟩
  have hi' : i < L.length := by simpa using hi
  refine ⟨L[i].at_, L[i].cap, ?_, ?_⟩
  · rw [List.getElem?_map, List.getElem?_eq_getElem hi']
    simp [slV]
  · have := hr _ (List.getElem_mem hi')
    simpa using this

set_option maxRecDepth 100000 in
set_option maxHeartbeats 8000000 in
theorem join_any (w0 : World) (A : Option Addr) (n c : Nat) (L : List Pq) (hn : L.length = n) (hm : n ≤ 1000) (hL : PtsL w0 w0.heap.size A L) (hs : ∀ q ∈ L, q.p.cells.length ≤ 1000) :
    Calls Try.prog 11 #[.slice A n c] w0 (RetP w0 (joinP L)) := by
  obtain ⟨iS, hiS, hzS0, hzS1, hzS2⟩ := info_parts Try.infoSl
  have k1 := below_new w0 (.cells #[.bool false, .slice none 0 0] 25)
  have k2 := k1.trans ((below_new (w0.alloc (.cells #[.bool false, .slice none 0 0] 25)) (.cells #[.bool false, .slice none 0 0] 25)).mono k1.size)
  have hz0 := Lib.hid ((Holds.new w0 25 #[.bool false, .slice none 0 0]).alloc (.cells #[.bool false, .slice none 0 0] 25))
  have hr0 := Holds.new (w0.alloc (.cells #[.bool false, .slice none 0 0] 25)) 25 #[.bool false, .slice none 0 0]
  rw [show (w0.alloc (.cells #[.bool false, .slice none 0 0] 25)).heap.size = w0.heap.size + 1 by simp] at hr0
  have hr1 := Lib.hid hr0
  have hL0 := Lib.hid hL
  have hk2 := Lib.hid k2
  have hn' := Lib.hid hn
  have hs' := Lib.hid hs
  clear k1 k2 hr0 hL hn hs
  go_enter Try.func11, Try.ntmps11
  go_wp2_with fail
  generalize (w0.alloc (.cells #[.bool false, .slice none 0 0] 25)).alloc (.cells #[.bool false, .slice none 0 0] 25) = w1 at hz0 hr1 hk2 ⊢
  generalize hB0 : w0.heap.size = B0 at hz0 hr1 ⊢
  have hB0' := Lib.hid hB0
  clear hB0
  have hsz := Lib.hid hr1.out.lt
  go_loopw [4, 9] (fun lv i wr => ∃ k : Nat, k ≤ n ∧ i = .int .i64 k ∧ Holds wr B0 25 #[.bool false, .slice none 0 0] ∧ Holds wr (B0 + 1) 25 #[.bool ((L.take k).any (·.p.nul)), .slice none 0 0] ∧ wr.ownsRow (B0 + 2) 23 1 lv k ((L.take k).map slV) ∧ Below w0.heap.size w0 wr) (fun _ i _ => n - (intOf i).toNat)
  case atStart => exact ⟨0, by omega, rfl, hz0.out, hr1.out, World.ownsRow_nil _ _ _ _, hk2.out⟩
  clear hz0 hr1
  obtain ⟨k, hk, rfl, hz0, hr0, ho0, hb0⟩ := hrel
  have hz := Lib.hid hz0
  have hr := Lib.hid hr0
  have ho := Lib.hid ho0
  have hb := Lib.hid hb0
  clear hz0 hb0
  have hbB := Lib.hid (show B0 ≤ wr.heap.size by have := hb.out.size; have := hB0'.out; omega)
  have z0 := (hr0.fact 0 rfl).2
  have z1 := (hr0.fact 1 rfl).2
  have f0 := hr0.frozen 0
  have f1 := hr0.frozen 1
  by_cases hlt : k < n
  · have hlt2 : k < L.length := by rw [hn'.out]; exact hlt
    obtain ⟨b, off, rfl, hbl, q0, q1, hrow, hcp⟩ := (hL0.out.below hb.out).at_ hlt2
    have htk := Lib.hid (List.take_succ_eq_append_getElem hlt2)
    have hl3 : B0 + 1 < wr.heap.size := hr0.lt
    clear hrow hcp hr0
    obtain ⟨q, hq⟩ : ∃ q, q = L[k] := ⟨_, rfl⟩
    rw [← hq] at q0 q1 htk
    clear hq
    obtain ⟨⟨pn, lk⟩, Ak, ck⟩ := q
    simp only at q0 q1
    have hq := Lib.hid (show True from trivial)
    generalize hbk0 : (L.take k).any (·.p.nul) = bk at hr z0
    have hbk := Lib.hid hbk0
    clear hbk0
    have hbw : b ≠ B0 + 1 := by have := hB0'.out; omega
    cases bk
    case false =>
      have hst := Writes.store wr (M := [some (B0 + 1)]) (p := ⟨B0 + 1, 0, none⟩) (by simp) (.bool pn)
      have k1 := below_new (wr.setCell ⟨B0 + 1, 0, none⟩ (.bool pn)) (.cells #[.bool pn, .slice Ak lk.length ck] 25)
      have k3 := below_new ((wr.setCell ⟨B0 + 1, 0, none⟩ (.bool pn)).alloc (.cells #[.bool pn, .slice Ak lk.length ck] 25)) (.cells #[.slice Ak lk.length ck] 23)
      have hX := Lib.hid (own_below (own_below (own_above ho.out hst (fun j hj => by simp at hj; omega)) k1) k3)
      have hzX := Lib.hid (((hst.holds hz.out (by simp)).below k1 (hst.holds hz.out (by simp)).lt).below k3 ((hst.holds hz.out (by simp)).below k1 (hst.holds hz.out (by simp)).lt).lt)
      have hrX := Lib.hid (show Holds (((wr.setCell ⟨B0 + 1, 0, none⟩ (.bool pn)).alloc (.cells #[.bool pn, .slice Ak lk.length ck] 25)).alloc (.cells #[.slice Ak lk.length ck] 23)) (B0 + 1) 25 #[.bool pn, .slice none 0 0] by
        have h1 := hr.out.store 0 (.bool pn)
        have h2 : Holds (wr.setCell ⟨B0 + 1, 0, none⟩ (.bool pn)) (B0 + 1) 25 #[.bool pn, .slice none 0 0] := by simpa using h1
        exact (h2.below k1 h2.lt).below k3 (h2.below k1 h2.lt).lt)
      have hbX := Lib.hid (((hb.out.trans (hst.below hb.out.size (fun j hj => by simp at hj; have := hB0'.out; omega))).trans (k1.mono (Nat.le_trans hb.out.size hst.size))).trans (k3.mono (Nat.le_trans hb.out.size (Nat.le_trans hst.size k1.size))))
      have hrow1 := Row.one ((wr.setCell ⟨B0 + 1, 0, none⟩ (.bool pn)).alloc (.cells #[.bool pn, .slice Ak lk.length ck] 25)) 23 (.slice Ak lk.length ck)
      rw [show ((wr.setCell ⟨B0 + 1, 0, none⟩ (.bool pn)).alloc (.cells #[.bool pn, .slice Ak lk.length ck] 25)).heap.size = wr.heap.size + 1 by simp [World.setCell]] at hrow1
      have hrow2 := Lib.hid hrow1
      have hBX := Lib.hid (show B0 + 2 ≤ (((wr.setCell ⟨B0 + 1, 0, none⟩ (.bool pn)).alloc (.cells #[.bool pn, .slice Ak lk.length ck] 25)).alloc (.cells #[.slice Ak lk.length ck] 23)).heap.size by have := hr.out.lt; have h1 := k1.size; have h2 := hst.size; have h3 := k3.size; omega)
      clear k1 hst k3 hrow1
      go_wp2_with
        (at_builtin
         go_loud (refine wpList_append_row _ rfl (.tmp 20) (.tmp 23) 42 rfl (B0 + 2) 23 iS (.slice none 0 0) 24 Try.underlying42 hiS hzS0 hzS1 hzS2 rfl u4 k ((L.take k).map slV) rfl hX.out _ (some ⟨wr.heap.size + 1, 0, none⟩) 1 1 [.slice Ak lk.length ck] rfl rfl hrow2.out (by intro u hu; simp at hu; subst hu; rfl) (by unfold maxLen; omega) (by omega) hBX.out ?_)
         intro v3 w3 ho3 hg3 _
         have hM3 : Writes [u4.ownBlock] (((wr.setCell ⟨B0 + 1, 0, none⟩ (.bool pn)).alloc (.cells #[.bool pn, .slice Ak lk.length ck] 25)).alloc (.cells #[.slice Ak lk.length ck] 23)) w3 := Writes.of_grown hg3 (by simp)
         have hlow : ∀ j, some j ∈ [u4.ownBlock] → B0 + 2 ≤ j := fun j hj => own_low hX.out (by simpa using hj)
         have ho4 := Lib.hid ho3
         have hz4 := Lib.hid (hM3.holds hzX.out (fun e => by have := hlow _ e; omega))
         have hr4 := Lib.hid (hM3.holds hrX.out (fun e => by have := hlow _ e; omega))
         have hb4 := Lib.hid (hbX.out.trans (hM3.below hbX.out.size (fun j hj => by have := hlow j hj; have := hB0'.out; omega)))
         clear ho3 hg3 hM3 hlow)
      go_roundw
      case rel =>
        refine ⟨k + 1, by omega, by go_num, hz4.out, ?_, ?_, hb4.out⟩
        · rw [htk.out, List.any_append, hbk.out]
          simpa [hq.out] using hr4.out
        · rw [htk.out, List.map_append]
          have := ho4.out
          simpa [slV, hq.out] using this
      case measure => simp [intOf]; omega
    case true =>
      have hst := Writes.store wr (M := [some (B0 + 1)]) (p := ⟨B0 + 1, 0, none⟩) (by simp) (.bool true)
      have k1 := below_new (wr.setCell ⟨B0 + 1, 0, none⟩ (.bool true)) (.cells #[.bool pn, .slice Ak lk.length ck] 25)
      have k3 := below_new ((wr.setCell ⟨B0 + 1, 0, none⟩ (.bool true)).alloc (.cells #[.bool pn, .slice Ak lk.length ck] 25)) (.cells #[.slice Ak lk.length ck] 23)
      have hX := Lib.hid (own_below (own_below (own_above ho.out hst (fun j hj => by simp at hj; omega)) k1) k3)
      have hzX := Lib.hid (((hst.holds hz.out (by simp)).below k1 (hst.holds hz.out (by simp)).lt).below k3 ((hst.holds hz.out (by simp)).below k1 (hst.holds hz.out (by simp)).lt).lt)
      have hrX := Lib.hid (show Holds (((wr.setCell ⟨B0 + 1, 0, none⟩ (.bool true)).alloc (.cells #[.bool pn, .slice Ak lk.length ck] 25)).alloc (.cells #[.slice Ak lk.length ck] 23)) (B0 + 1) 25 #[.bool true, .slice none 0 0] by
        have h1 := hr.out.store 0 (.bool true)
        have h2 : Holds (wr.setCell ⟨B0 + 1, 0, none⟩ (.bool true)) (B0 + 1) 25 #[.bool true, .slice none 0 0] := by simpa using h1
        exact (h2.below k1 h2.lt).below k3 (h2.below k1 h2.lt).lt)
      have hbX := Lib.hid (((hb.out.trans (hst.below hb.out.size (fun j hj => by simp at hj; have := hB0'.out; omega))).trans (k1.mono (Nat.le_trans hb.out.size hst.size))).trans (k3.mono (Nat.le_trans hb.out.size (Nat.le_trans hst.size k1.size))))
      have hrow1 := Row.one ((wr.setCell ⟨B0 + 1, 0, none⟩ (.bool true)).alloc (.cells #[.bool pn, .slice Ak lk.length ck] 25)) 23 (.slice Ak lk.length ck)
      rw [show ((wr.setCell ⟨B0 + 1, 0, none⟩ (.bool true)).alloc (.cells #[.bool pn, .slice Ak lk.length ck] 25)).heap.size = wr.heap.size + 1 by simp [World.setCell]] at hrow1
      have hrow2 := Lib.hid hrow1
      have hBX := Lib.hid (show B0 + 2 ≤ (((wr.setCell ⟨B0 + 1, 0, none⟩ (.bool true)).alloc (.cells #[.bool pn, .slice Ak lk.length ck] 25)).alloc (.cells #[.slice Ak lk.length ck] 23)).heap.size by have := hr.out.lt; have h1 := k1.size; have h2 := hst.size; have h3 := k3.size; omega)
      clear k1 hst k3 hrow1
      go_wp2_with
        (at_builtin
         go_loud (refine wpList_append_row _ rfl (.tmp 20) (.tmp 23) 42 rfl (B0 + 2) 23 iS (.slice none 0 0) 24 Try.underlying42 hiS hzS0 hzS1 hzS2 rfl u4 k ((L.take k).map slV) rfl hX.out _ (some ⟨wr.heap.size + 1, 0, none⟩) 1 1 [.slice Ak lk.length ck] rfl rfl hrow2.out (by intro u hu; simp at hu; subst hu; rfl) (by unfold maxLen; omega) (by omega) hBX.out ?_)
         intro v3 w3 ho3 hg3 _
         have hM3 : Writes [u4.ownBlock] (((wr.setCell ⟨B0 + 1, 0, none⟩ (.bool true)).alloc (.cells #[.bool pn, .slice Ak lk.length ck] 25)).alloc (.cells #[.slice Ak lk.length ck] 23)) w3 := Writes.of_grown hg3 (by simp)
         have hlow : ∀ j, some j ∈ [u4.ownBlock] → B0 + 2 ≤ j := fun j hj => own_low hX.out (by simpa using hj)
         have ho4 := Lib.hid ho3
         have hz4 := Lib.hid (hM3.holds hzX.out (fun e => by have := hlow _ e; omega))
         have hr4 := Lib.hid (hM3.holds hrX.out (fun e => by have := hlow _ e; omega))
         have hb4 := Lib.hid (hbX.out.trans (hM3.below hbX.out.size (fun j hj => by have := hlow j hj; have := hB0'.out; omega)))
         clear ho3 hg3 hM3 hlow)
      go_roundw
      case rel =>
        refine ⟨k + 1, by omega, by go_num, hz4.out, ?_, ?_, hb4.out⟩
        · rw [htk.out, List.any_append, hbk.out]
          simpa [hq.out] using hr4.out
        · rw [htk.out, List.map_append]
          have := ho4.out
          simpa [slV, hq.out] using this
      case measure => simp [intOf]; omega
  · obtain rfl : k = n := by omega
    rw [show L.take k = L from by rw [← hn'.out, List.take_length]] at ho hr z0 hr0
    rw [← hn'.out] at ho
    obtain ⟨Al, cl, hv, hLs⟩ := lists_of ho.out (fun q hq => ((hL0.out.below hb.out).2 q hq).1.more hb.out.size)
    subst hv
    have hLs' := Lib.hid hLs
    have hsum : Hid (((L.map (·.p.cells)).flatten).length ≤ 1000000) := Lib.hid (by
      have := flat_sum hs'.out
      rw [hn'.out] at this
      rw [← List.flatMap_def]
      omega)
    have hfe : Hid ((L.map (·.p.cells)).flatten = L.flatMap (·.p.cells)) := Lib.hid List.flatMap_def.symm
    clear hLs hr0 z0 z1 f0 f1 ho
    go_wp2_with fail
    refine (ordered_any wr Al L.length cl (L.map (·.p.cells)) (by simp) (by rw [hn'.out]; omega) hLs'.out hsum.out).mono ?_
    rintro e w2 ⟨v, rfl, ho, hb2⟩
    rw [hfe.out] at ho
    obtain ⟨A2, c2, rfl, _, _⟩ := own_rowA ho
    have hz2 := hz.out.below hb2 hz.out.lt
    have hr2 := hr.out.below hb2 hr.out.lt
    have z1 := (hr2.fact 1 rfl).2
    have f1 := hr2.frozen 1
    have z0 := (hr2.fact 0 rfl).2
    have y0 := (hz2.fact 0 rfl).2
    have y1 := (hz2.fact 1 rfl).2
    have g0 := hz2.frozen 0
    have g1 := hz2.frozen 1
    generalize hjn : L.any (·.p.nul) = jn at z0
    have hst1 := Writes.store w2 (M := [some (B0 + 1)]) (p := ⟨B0 + 1, 1, none⟩) (by simp) (.slice A2 (canon (L.flatMap (·.p.cells))).length c2)
    have hst2 := writes_store2 (w2.setCell ⟨B0 + 1, 1, none⟩ (.slice A2 (canon (L.flatMap (·.p.cells))).length c2)) B0 (.bool jn) (.slice A2 (canon (L.flatMap (·.p.cells))).length c2)
    have hst := (hst1.more (M' := [some (B0 + 1), some B0]) (by simp)).trans (hst2.more (M' := [some (B0 + 1), some B0]) (by simp))
    obtain ⟨A3, c3, e3, hr3, hc3⟩ := own_val ho hst (fun j hj => by simp at hj; have := hr.out.lt; omega)
    simp only [Value.slice.injEq, true_and] at e3
    obtain ⟨rfl, rfl⟩ := e3
    have hfin : Hid (RetP w0 (joinP L) (.returned (.agg #[.bool jn, .slice A2 (canon (L.flatMap (·.p.cells))).length c2])) (((w2.setCell ⟨B0 + 1, 1, none⟩ (.slice A2 (canon (L.flatMap (·.p.cells))).length c2)).setCell ⟨B0, 0, none⟩ (.bool jn)).setCell ⟨B0, 1, none⟩ (.slice A2 (canon (L.flatMap (·.p.cells))).length c2))) :=
      Lib.hid ⟨⟨_, rfl, A2, c2, by rw [← hjn]; rfl, hr3, hc3⟩, (hb.out.trans (hb2.mono hb.out.size)).trans (hst.below (Nat.le_trans hb.out.size hb2.size) (fun j hj => by simp at hj; have := hB0'.out; omega))⟩
    have hh3 := Lib.hid ((hst1.holds hz2 (by simp)).store2 (.bool jn) (.slice A2 (canon (L.flatMap (·.p.cells))).length c2))
    clear hst1 hst2 hst hr3 hc3 ho hb2 hz2 hr2 hjn hz hr
    generalize canon (L.flatMap (·.p.cells)) = cv at *
    go_wp2_with fail
    exact ret_cell1 rfl rfl rfl hh3.out Try.underlying25 Try.sPt hfin.out
end Go.Proofs.Ytkohobkeapcpfaa
