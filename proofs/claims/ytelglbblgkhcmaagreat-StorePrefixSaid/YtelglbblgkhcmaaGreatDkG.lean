/-
  slices.Sorted(maps.Keys(m)) and maps.Clone over maps from numbers to slices of bytes.
-/
import Derived.Test.YtelglbblgkhcmaaGreatIter
import Derived.Test.YtelglbblgkhcmaaGreatBuf
namespace Go.Proofs.YtelglbblgkhcmaaGreat
open Go.RowKit Go.Maps Go.Sort Go.Shelf

theorem Tryz.sortsA (m : Nat) : AnyZI.SortsIn Tryz.prog Tryz.sortedA_ren Fence.wide m :=
  ⟨fun blk off cap ss W hH hblk hsz => callsIn_wide.2 (AnyM.slices_Sort_int Tryz.sortA blk off cap ss W hH hblk hsz),
   fun p cap W => callsIn_wide.2 (AnyM.slices_Sort_int_none Tryz.sortA p cap W)⟩
/-- The keys of a map, rising. -/
def KeysOf (f : Int → Option Value) (ks : List Int) : Prop := ks.Pairwise (· < ·) ∧ ∀ k, k ∈ ks ↔ f k ≠ none

theorem keys_of_own {w : World} {m n : Nat} {D : DataW Value} {f : Int → Option Value} (ho : w.ownsMap Tryz.prog 3 heldR m n D) (hs : Says D f) {ss : List Int} (hp : ss.Perm (intKeys D)) : KeysOf f (ss.mergeSort leI) := by
  obtain ⟨es, rfl, hpw, hkey⟩ := ho.entries Tryz.intKeyed
  obtain ⟨es0, clock, hb, F, _, hD⟩ := ho
  have hint : ∀ p ∈ es, ∃ k : Int, p.1 = .int .i64 k := by
    intro p hpm
    injection hD with hD
    rw [hD] at hpm
    obtain ⟨x, hx, rfl⟩ := List.mem_map.1 (mem_sorted.1 hpm)
    obtain ⟨y, hy⟩ := F.reads x hx
    rw [Go.WideElems.rg_of hy]
    obtain ⟨k, _, e, _⟩ := Maps.keyOf_int_inv Tryz.underlying3 (Go.WideElems.rd_key hy)
    exact ⟨k, e⟩
  have hnd : (intKeys (DataW.map es)).Nodup := by
    unfold intKeys
    rw [List.Nodup, List.pairwise_map]
    refine hpw.imp_of_mem fun {a b} ha hb hne e => hne ?_
    obtain ⟨k, e1⟩ := hint a ha
    obtain ⟨k', e2⟩ := hint b hb
    rw [e1, e2] at e ⊢
    simp only [_root_.Go.intOf] at e
    rw [e]
  have hmem : ∀ k, k ∈ intKeys (DataW.map es) ↔ f k ≠ none := by
    intro k
    have hsk := hs k
    have hh : k ∈ intKeys (DataW.map es) ↔ Maps.has (.map es) (.int .i64 k) = true := by
      unfold intKeys
      rw [List.mem_map, has_eq, List.any_eq_true]
      constructor
      · rintro ⟨p, hpm, e⟩
        obtain ⟨k', e1⟩ := hint p hpm
        rw [e1] at e
        simp only [_root_.Go.intOf] at e
        subst e
        exact ⟨p, hpm, by rw [e1]; exact WideAt.sameKey_self trivial⟩
      · rintro ⟨p, hpm, e⟩
        have := WideAt.sameKey_eq e
        exact ⟨p, hpm, by rw [this]; rfl⟩
    rw [hh]
    cases hf : f k with
    | none => rw [hf] at hsk; simp only at hsk; simp [hsk]
    | some v => rw [hf] at hsk; simp only at hsk; simp [hsk.1]
  have hperm := (List.mergeSort_perm ss leI).trans hp
  refine ⟨?_, fun k => (hperm.mem_iff).trans (hmem k)⟩
  have h1 : (ss.mergeSort leI).Pairwise (fun a b => leI a b = true) := List.pairwise_mergeSort (fun a b c h1 h2 => by simp only [leI, decide_eq_true_eq] at *; exact Int.le_trans h1 h2) (fun a b => by simp only [leI, Bool.or_eq_true, decide_eq_true_eq]; exact Int.le_total a b) ss
  have h2 : (ss.mergeSort leI).Nodup := hperm.nodup_iff.2 hnd
  exact (List.pairwise_and_iff.2 ⟨h1, h2⟩).imp fun {a b} ⟨h3, h4⟩ => by
    simp only [leI, decide_eq_true_eq] at h3
    omega
theorem keys_any (w : World) (mb : Nat) : Calls Tryz.prog 38 #[.map (some mb)] w fun e w' => e = .returned (.func (.func 66) #[] #[.pointer (some ⟨w.heap.size, 0, none⟩)]) ∧ w' = w.alloc (.cells #[.map (some mb)] 67) :=
  (callsIn_wide (n := 5)).1 (AnyZI.keys_in Tryz.keysA Fence.wide 5 trivial rfl (some mb) w)
set_option maxHeartbeats 1000000 in
theorem sorted_any (w : World) (mb : Nat) (f : Int → Option Value) (h : IMap w mb f) :
    Calls Tryz.prog 37 #[.func (.func 66) #[] #[.pointer (some ⟨w.heap.size, 0, none⟩)]] (w.alloc (.cells #[.map (some mb)] 67)) fun e w' =>
      (∃ v ks, e = .returned v ∧ KeysOf f ks ∧ w'.ownsRow w.heap.size 3 1 v ks.length (ks.map (Value.int .i64))) ∧ Below w.heap.size w w' := by
  obtain ⟨⟨nn, D0, hn, hown, hs⟩, hk⟩ := h
  have hbl := hown.lt
  have hsz := hown.size_le
  have hmax : Maps.size D0 ≤ maxLen := by unfold maxLen; omega
  have hbytes : Maps.size D0 * 8 ≤ 140737488355328 := by omega
  have hseq : SeqGives Fence.wide 2 Tryz.prog 66 #[.pointer (some ⟨w.heap.size, 0, none⟩)] encZ (fun ss => ss.Perm (intKeys D0)) (Maps.size D0) (w.alloc (.cells #[.map (some mb)] 67)) :=
    AnyZI.keys_gives (ρ := Tryz.keysA_ren) { Tryz.keysA with } Fence.wide _ trivial rfl (by omega) w.heap.size mb nn D0 _ (by simp) (by simp) (by
      obtain ⟨es, clock, hb, Ft, hs, hD⟩ := hown
      exact ⟨es, clock, (Below.heap_alloc _ _ mb hbl).trans hb, Ft, hs, hD⟩)
  have cS := AnyZI.sorted_in Tryz.sortedA Fence.wide 5 trivial trivial trivial trivial rfl (by omega) (Tryz.sortsA _) (enters_of Tryz.func65 (by kernel_rfl) rfl) 66 #[.pointer (some ⟨w.heap.size, 0, none⟩)] trivial (enters_of Tryz.func66 (by kernel_rfl) rfl) _ _ hmax hbytes _ hseq
  refine ((callsIn_wide (n := 5)).1 cS).mono ?_
  rintro e w' ⟨v, ss, rfl, hS, hrow, _, hb⟩
  have hsz : (w.alloc (.cells #[.map (some mb)] 67)).heap.size = w.heap.size + 1 := by simp
  refine ⟨⟨v, ss.mergeSort leI, rfl, keys_of_own hown hs hS, ?_⟩, (below_new w _).trans (hb.mono (by rw [hsz]; omega))⟩
  rw [List.length_mergeSort]
  have hB : w.heap.size ≤ (w.alloc (.cells #[.map (some mb)] 67)).heap.size := by rw [hsz]; omega
  exact own_base hrow hB
end Go.Proofs.YtelglbblgkhcmaaGreat
