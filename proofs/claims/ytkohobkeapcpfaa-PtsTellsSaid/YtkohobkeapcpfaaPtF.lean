/-
  The walks of light, pts.Text.
-/
import Derived.Test.YtkohobkeapcpfaaPtE
namespace Go.Proofs.Ytkohobkeapcpfaa
open Go.RowKit

def Pq.light (q : Pq) : Prop := q.p.cells.length ≤ 10 ∧ ∀ x ∈ q.p.cells, x.length ≤ 50
set_option maxRecDepth 100000 in
set_option maxHeartbeats 4000000 in
theorem light_any (w : World) (A : Option Addr) (n c : Nat) (L : List Pq) (hn : L.length = n) (hm : n ≤ maxLen) (hL : PtsL w w.heap.size A L) (hs : ∀ q ∈ L, q.p.cells.length ≤ maxLen) :
    Calls Try.prog 8 #[.slice A n c] w fun e w' => ((e = .returned (.bool true) ∧ n ≤ 10 ∧ ∀ q ∈ L, q.light) ∨ e = .returned (.bool false)) ∧ w' = w := by
  unfold maxLen at hm
  have hn' := Lib.hid hn
  have hL' := Lib.hid hL
  have hs' := Lib.hid hs
  clear hn hL hs
  by_cases hbig : 10 < n
  · go_enter Try.func8, Try.ntmps8
    go_wp2_with fail
    go_ret
    exact ⟨.inr rfl, rfl⟩
  go_enter Try.func8, Try.ntmps8
  go_wp2_with fail
  go_loop [3] (fun i => ∃ k : Nat, k ≤ n ∧ i = .int .i64 k ∧ ∀ q ∈ L.take k, q.light) (fun i => n - (intOf i).toNat)
  case atStart => exact ⟨0, by omega, rfl, by simp⟩
  obtain ⟨k, hk, rfl, hall⟩ := hrel
  have hall' := Lib.hid hall
  clear hall
  by_cases hlt : k < n
  · have hlt2 : k < L.length := by rw [hn'.out]; exact hlt
    obtain ⟨b, off, rfl, hbl, q0, q1, hrow, hcp⟩ := hL'.out.at_ hlt2
    have htk := Lib.hid (List.take_succ_eq_append_getElem hlt2)
    have hmc := hs'.out _ (List.getElem_mem hlt2)
    unfold maxLen at hmc
    have hrow' := Lib.hid hrow
    clear hrow hcp
    generalize L[k] = q at *
    by_cases hb2 : 10 < q.p.cells.length
    · go_wp2_with fail
      go_ret
      exact ⟨.inr rfl, rfl⟩
    go_wp2_with fail
    go_loop [4] (fun j => ∃ m : Nat, m ≤ q.p.cells.length ∧ j = .int .i64 m ∧ ∀ x ∈ q.p.cells.take m, x.length ≤ 50) (fun j => q.p.cells.length - (intOf j).toNat)
    case atStart => exact ⟨0, by omega, rfl, by simp⟩
    obtain ⟨m, hm2, rfl, hall2⟩ := hrel
    have hall2' := Lib.hid hall2
    clear hall2
    by_cases hlm : m < q.p.cells.length
    · obtain ⟨b2, o2, e2, _, q2⟩ := hrow'.out.at_ (k := m) (by simpa using hlm)
      rw [List.getElem_map] at q2
      rw [e2] at q1
      have htm := Lib.hid (List.take_succ_eq_append_getElem hlm)
      generalize q.p.cells[m] = x at q2 htm
      by_cases h50 : 50 < x.length
      · go_wp2_with fail
        go_ret
        exact ⟨.inr rfl, rfl⟩
      · have h50' := Lib.hid h50
        go_wp2_with fail
        go_round
        case rel =>
          refine ⟨m + 1, by omega, by go_num, ?_⟩
          rw [htm.out]
          intro z hz
          rcases List.mem_append.1 hz with h | h
          · exact hall2'.out z h
          · simp at h
            subst h
            have := h50'.out
            omega
        case measure => simp [intOf]; omega
    · obtain rfl : m = q.p.cells.length := by omega
      have hgood : Hid q.light := Lib.hid ⟨by omega, by have := hall2'.out; rwa [List.take_length] at this⟩
      go_wp2_with fail
      go_round
      case rel =>
        refine ⟨k + 1, by omega, by go_num, ?_⟩
        rw [htk.out]
        intro z hz
        rcases List.mem_append.1 hz with h | h
        · exact hall'.out z h
        · simp at h
          subst h
          exact hgood.out
      case measure => simp [intOf]; omega
  · obtain rfl : k = n := by omega
    have hfin : Hid (∀ q ∈ L, q.light) := Lib.hid (by have := hall'.out; rwa [← hn'.out, List.take_length] at this)
    go_wp2_with fail
    go_ret
    exact ⟨.inl ⟨rfl, by omega, hfin.out⟩, rfl⟩
end Go.Proofs.Ytkohobkeapcpfaa
