/-
  The walk of augurlaw2.known: the chapter's example.
-/
import Derived.Test.YtimhghmnnibajaaCodeI
namespace Go.Proofs.Ytimhghmnnibajaa
open Go.RowKit

/-- Ints of numbers given on the spot. -/
theorem ints_new (w : World) (B g : Nat) (t : TypeId) (v : Value) (l : List UInt8) (zs : List Int) (b n : Nat) (cs : Array Value) (hw : Wrt w B g t v l) (hB : B ≤ w.heap.size) (hb : w.heap.size = b) (hn : zs.length = n) (hcs : (zs.map i64V).toArray = cs)
    (hz : ∀ z ∈ zs, -9223372036854775808 ≤ z ∧ z ≤ 9223372036854775807) (hlen : l.length + 10 * zs.length ≤ 99999999990) :
    Calls Try.prog 16 #[.pointer (some ⟨g, 0, none⟩), .slice (some ⟨b, 0, none⟩) n n] (w.alloc (.cells cs 2)) (Wrote w B g t v (l ++ zs.flatMap intE)) := by
  subst hb hn hcs
  have hb := below_new w (.cells (zs.map i64V).toArray 2)
  refine (int_any (w.alloc _) B g t v l (some ⟨w.heap.size, 0, none⟩) zs.length zs (hw.below hb) (by simp; omega) hz (Row.fresh w _ _) (fun _ => hw.lt (Nat.le_refl _)) hlen).mono ?_
  rintro e w' ⟨he, v', hv, hM, hF⟩
  refine ⟨he, v', hv, (Writes.of_below hb _).trans hM, ?_⟩
  rcases hF with h | ⟨k, h1, h2⟩
  · exact .inl h
  · exact .inr ⟨k, h1, by simp at h2; omega⟩

theorem strV_nil : (strV []).toList.isEmpty = true := by
  rw [show strV [] = ByteArray.empty from rfl]
  first
    | rfl
    | decide
    | (simp; done)
    | (rw [ByteArray.toList, ByteArray.toList.loop]; simp; done)
theorem known_bytes : [] ++ [(-1 : Int), 1].flatMap intE = intE (-1) ++ (intE 1 ++ []) := rfl
theorem known_str : strV (intE (-1) ++ (intE 1 ++ [])) = ⟨#[1, 2]⟩ := by
  rw [show intE (-1) = [1] by unfold intE zigN; simp [numE_small], show intE 1 = [2] by unfold intE zigN; simp [numE_small]]
  rfl
theorem known_len : (intE (-1) ++ (intE 1 ++ [])).length = 2 := by
  rw [show intE (-1) = [1] by unfold intE zigN; simp [numE_small], show intE 1 = [2] by unfold intE zigN; simp [numE_small]]
  rfl

set_option maxRecDepth 100000 in
set_option maxHeartbeats 2000000 in
theorem known_any (W : World) : Calls Try.prog 14 #[] W fun e w' => e = .returned (.bool true) ∧ Below W.heap.size W w' := by
  go_enter Try.func14, Try.ntmps14
  go_wp2_with fail
  refine (newWriter_any _).mono ?_
  rintro e w1 ⟨rfl, rfl⟩
  have hw0 := Lib.hid (newWriter_wrt W)
  have hb1 := Lib.hid (below_new W (.cells #[.slice none 0 0] 30))
  generalize hw1 : W.alloc (.cells #[.slice none 0 0] 30) = w1 at hw0 hb1 ⊢
  have hs1 : w1.heap.size = W.heap.size + 1 := by rw [← hw1]; simp
  clear hw1
  have hs1h := Lib.hid hs1
  go_wp2_with fail
  refine (ints_new w1 W.heap.size W.heap.size 30 (.slice none 0 0) [] [-1, 1] _ 2 _ hw0.out (by omega) hs1h.out rfl rfl (by simp) (by simp)).mono ?_
  rintro e w2 ⟨rfl, v2, hw2, hM2, hF2⟩
  rw [known_bytes] at hw2
  obtain ⟨L, hL⟩ : ∃ L, L = intE (-1) ++ (intE 1 ++ []) := ⟨_, rfl⟩
  rw [← hL] at hw2
  have hLs : strV L = ⟨#[1, 2]⟩ := by rw [hL]; exact known_str
  have hLl : L.length ≤ 100000000000 := by rw [hL, known_len]; omega
  have hL := Lib.hid hL
  rename_i hL'
  clear hL' hs1
  have hb2 := Lib.hid (hb1.out.trans (hM2.below (B := W.heap.size) (by have := hs1h.out; omega) (fun k hk => by
    simp [Value.ownBlock] at hk
    omega)))
  have hw2 := Lib.hid hw2
  rename_i hw2'
  clear hw2' hM2 hF2 hb1 hw0 hs1h
  have hLs := Lib.hid hLs
  rename_i hLs'
  clear hLs'
  have hLl := Lib.hid hLl
  rename_i hLl'
  clear hLl'
  go_wp2_with fail
  refine (bytes_any w2 _ W.heap.size _ v2 L hw2.out hLl.out).mono ?_
  rintro e w3 ⟨A3, c3, rfl, hA3, hb3, hN3, hc3⟩
  have hA3 := Lib.hid hA3
  rename_i hA3'
  clear hA3' hN3
  have hw3 := Lib.hid (hw2.out.below hb3)
  have hb3 := Lib.hid (hb2.out.trans (hb3.mono hb2.out.size))
  rename_i hb3'
  clear hb3' hb2 hw2
  go_wp2_with fail
  refine (newReader_any w3 A3 c3 L hA3.out hLl.out).mono ?_
  rintro e w4 ⟨gr, rfl, hgr, hR4, hb4⟩
  have hR4 := Lib.hid hR4
  rename_i hR4'
  clear hR4' hA3
  have hw4 := Lib.hid (hw3.out.below hb4)
  have hgW : W.heap.size ≤ gr := Nat.le_trans hb3.out.size hgr
  have hb4 := Lib.hid (hb3.out.trans (hb4.mono hb3.out.size))
  rename_i hb4'
  clear hb4' hb3 hw3
  go_wp2_with fail
  refine (bytes_any w4 _ W.heap.size _ v2 L hw4.out hLl.out).mono ?_
  rintro e w5 ⟨A5, c5, rfl, hA5, hb5, hN5, hc5⟩
  have kv := run_text (P := Try.prog) w5 26 5 Try.underlying26 Try.underlying5 A5 L.length c5 L rfl hA5 9 Try.underlying9
  rw [hLs.out] at kv
  have hR5 := Lib.hid (hR4.out.below hb5)
  have hb5 := Lib.hid (hb4.out.trans (hb5.mono hb4.out.size))
  rename_i hb5'
  clear hb5' hb4 hw4 hA5 hN5 hR4
  go_wp2_with fail
  rw [hL.out] at hR5
  refine (rInt_any _ gr _ hR5.out).mono ?_
  intro e w6 h6
  obtain ⟨rfl, hR6, hM6⟩ := Took.int h6 (by decide) (by decide)
  go_wp2_with fail
  refine (rInt_any _ gr _ hR6).mono ?_
  intro e w7 h7
  obtain ⟨rfl, hR7, hM7⟩ := Took.int h7 (by decide) (by decide)
  go_wp2_with fail
  refine (done_any _ gr _ hR7).mono ?_
  rintro e w8 ⟨rfl, rfl⟩
  go_wp2_with fail
  refine (rText_any _ gr _ hR7).mono ?_
  intro e w9 h9
  obtain ⟨rfl, hR9, hM9⟩ := Took.no h9 textR_nil
  have he0 := strV_nil
  go_wp2_with fail
  refine (done_any _ gr _ hR9).mono ?_
  rintro e w10 ⟨rfl, rfl⟩
  go_wp2_with fail
  go_ret
  exact ⟨rfl, hb5.out.trans (((hM6.trans hM7).trans hM9).below hb5.out.size (fun k hk => by simp at hk; omega))⟩
end Go.Proofs.Ytimhghmnnibajaa
