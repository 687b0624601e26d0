/-
  The walks of the reference's reader (augurref1.Reader): Text.
-/
import Derived.Test.YtimhghmnnibajaaRrB
namespace Go.Proofs.Ytimhghmnnibajaa
open Go.RowKit

set_option maxRecDepth 100000 in
set_option maxHeartbeats 2000000 in
theorem rrText_any (w : World) (g : Nat) (st : Option (List UInt8)) (h : Rrd w g st) :
    Calls Try.prog 36 #[.pointer (some ⟨g, 0, none⟩)] w (TookR w g (fun s : List UInt8 => .string (strV s)) textR [] st) := by
  have hlt := valNum_lt st
  go_enter Try.func36, Try.ntmps36
  go_wp2_with fail
  refine (rrNum_any _ g st h).mono ?_
  rintro e w2 ⟨rfl, hR, hM0⟩
  obtain ⟨A, m, c, c0, c1, f0, f1, hh0, hm, hl⟩ := hR.cells
  have hh := Lib.hid hh0
  have hM := Lib.hid hM0
  clear hR hM0 hh0
  have hbad : Hid (st.bind textR = none → TookR w g (fun s : List UInt8 => .string (strV s)) textR [] st (.returned (.string (strV []))) (w2.setCell ⟨g, 1, none⟩ (.bool true))) := Lib.hid fun hno => TookR.no (val := fun s : List UInt8 => .string (strV s)) (zero := []) hno (Rrd.fail hh.out hm) (hM.out.trans (Writes.store w2 (p := ⟨g, 1, none⟩) (by simp) (.bool true)))
  cases hst : nextOf numR st with
  | none =>
    rw [hst] at c1
    have hno := Lib.hid (show st.bind textR = none by
      cases st with
      | none => rfl
      | some l => cases hn : numR l with
        | none => simp [textR, countR, hn]
        | some p => simp [nextOf, hn] at hst)
    generalize valOf numR 0 st = n at hlt ⊢
    clear hl
    go_wp2_with fail
    go_ret
    exact hbad.out hno.out
  | some l' =>
    rw [hst] at c1
    obtain ⟨hl0, hc, hb0, hA0⟩ := hl l' hst
    obtain ⟨l, hl1, hn0⟩ : ∃ l, st = some l ∧ numR l = some (valOf numR 0 st, l') := by
      cases st with
      | none => simp [nextOf] at hst
      | some l => cases hn : numR l with
        | none => simp [nextOf, hn] at hst
        | some p =>
          simp [nextOf, hn] at hst
          refine ⟨l, rfl, ?_⟩
          simp only [valOf, Option.bind_some, hn, Option.map_some, Option.getD_some]
          rw [← hst]
    have hbf := Lib.hid (show (nextOf numR st).isNone = false by rw [hst]; rfl)
    have hn1 := Lib.hid hn0
    have hl2 := Lib.hid hl0
    have hst1 := Lib.hid hl1
    have hb := Lib.hid hb0
    have hA := Lib.hid hA0
    clear hl hst hl1 hn0 hb0 hA0 hl0 h
    generalize valOf numR 0 st = n at hlt hn1 ⊢
    by_cases hle : n ≤ m
    case neg =>
      have hno := Lib.hid (show st.bind textR = none by
        rw [hst1.out]
        simp only [Option.bind_some, textR, countR, hn1.out]
        rw [if_neg (by rw [hl2.out]; exact hle)]
        rfl)
      go_wp2_with fail
      go_ret
      exact hbad.out hno.out
    have hyes := Lib.hid (show textR l = some (l'.take n, l'.drop n) by
      simp only [textR, countR, hn1.out, Option.bind_some]
      rw [if_pos (by rw [hl2.out]; exact hle)]
      rfl)
    have hnc : n ≤ c := by omega
    have kv := run_text (P := Try.prog) w2 26 5 Try.underlying26 Try.underlying5 A n c (l'.take n) (by rw [List.length_take, hl2.out]; omega) (hb.out.take n) 9 Try.underlying9
    have hcut := hb.out.cut n (c := c) (by rw [hl2.out]; exact hc)
    have hfin : Hid (∀ A2 n2 c2, n2 = m - n → n2 ≤ c2 → (l'.drop n ≠ [] → ∀ a, A2 = some a → a.block < g) → Bytes w2 w2.heap.size A2 (l'.drop n) → TookR w g (fun s : List UInt8 => .string (strV s)) textR [] st (.returned (.string (strV (l'.take n)))) (w2.setCell ⟨g, 0, none⟩ (.slice A2 n2 c2))) := Lib.hid fun A2 n2 c2 h0 h3 hA2 h4 => by
      subst h0
      rw [hst1.out]
      exact TookR.ok (val := fun s : List UInt8 => .string (strV s)) (zero := []) hyes.out (Rrd.set hbf.out hh.out (by rw [List.length_drop, hl2.out]) h3 h4 hA2 (by omega)) (hM.out.trans (Writes.store _ (by simp) _))
    clear hbad
    by_cases e : c = n
    · rw [if_pos e] at hcut
      have hcut1 := Lib.hid hcut
      subst e
      clear hcut
      go_wp2_with fail
      go_ret
      exact hfin.out _ _ _ (by omega) (by omega) (fun hne => hA.out (by rintro rfl; simp at hne)) hcut1.out
    · rw [if_neg e] at hcut
      have hcut1 := Lib.hid hcut
      clear hcut
      have hA2 : Hid (l'.drop n ≠ [] → ∀ a, A.map (·.add n) = some a → a.block < g) := Lib.hid (by
        intro hne a ha
        rcases A with _ | a0
        · cases ha
        · simp only [Option.map_some, Option.some.injEq] at ha
          subst ha
          have := hA.out (by rintro rfl; simp at hne) a0 rfl
          unfold Addr.add
          split <;> exact this)
      go_wp2_with fail
      go_ret
      exact hfin.out _ _ _ (by omega) (by omega) hA2.out hcut1.out
end Go.Proofs.Ytimhghmnnibajaa
