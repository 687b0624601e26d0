/-
  The walk of augurlaw24.known: the chapter's example.
-/
import Derived.Test.YtimhghmnnibajaaRqK
namespace Go.Proofs.Ytimhghmnnibajaa
open Go.RowKit

theorem knownQ : rqE ⟨4, ⟨#[102]⟩, ⟨#[]⟩, 0⟩ = [4, 1, 102, 0, 0] := by
  have h1 : numE (max 0 (4 : Int)).toNat = [4] := by rw [show (max 0 (4 : Int)).toNat = 4 by omega, numE_small (by omega)]; rfl
  have h2 : txtE ⟨#[102]⟩ = [1, 102] := by unfold txtE; rw [show (⟨#[102]⟩ : ByteArray).size = 1 from rfl, numE_small (by omega)]; rfl
  have h3 : txtE ⟨#[]⟩ = [0] := by unfold txtE; rw [show (⟨#[]⟩ : ByteArray).size = 0 from rfl, numE_small (by omega)]; rfl
  have h4 : intE 0 = [0] := by unfold intE zigN; rw [if_pos (by omega)]; rw [show 2 * (0 : Int).toNat = 0 from rfl, numE_small (by omega)]; rfl
  unfold rqE
  rw [h1, h2, h3, h4]
  rfl
theorem knownP : rpE ⟨4, 0, 0, [⟨1, 2⟩], ⟨#[]⟩, 0⟩ = [4, 0, 0, 1, 2, 4, 0, 0] := by
  have h1 : numE (max 0 (4 : Int)).toNat = [4] := by rw [show (max 0 (4 : Int)).toNat = 4 by omega, numE_small (by omega)]; rfl
  have h3 : txtE ⟨#[]⟩ = [0] := by unfold txtE; rw [show (⟨#[]⟩ : ByteArray).size = 0 from rfl, numE_small (by omega)]; rfl
  have h4 : intE 0 = [0] := by unfold intE zigN; rw [if_pos (by omega)]; rw [show 2 * (0 : Int).toNat = 0 from rfl, numE_small (by omega)]; rfl
  have h5 : intE 1 = [2] := by unfold intE zigN; rw [if_pos (by omega)]; rw [show 2 * (1 : Int).toNat = 2 from rfl, numE_small (by omega)]; rfl
  have h6 : intE 2 = [4] := by unfold intE zigN; rw [if_pos (by omega)]; rw [show 2 * (2 : Int).toNat = 4 from rfl, numE_small (by omega)]; rfl
  have h7 : numE 1 = [1] := by rw [numE_small (by omega)]; rfl
  unfold rpE alsE
  simp only [List.length_cons, List.length_nil, Nat.zero_add, List.flatMap_cons, List.flatMap_nil, alE]
  rw [h1, h3, h4, h5, h6, h7]
  rfl
set_option maxRecDepth 100000 in
set_option maxHeartbeats 4000000 in
theorem known24_any (W : World) : Calls Try.prog 42 #[] W fun e w' => e = .returned (.bool true) ∧ Below W.heap.size W w' := by
  have hq := Lib.hid knownQ
  have hop : openQ (rqE ⟨4, ⟨#[102]⟩, ⟨#[]⟩, 0⟩) = some ⟨4, ⟨#[102]⟩, ⟨#[]⟩, 0⟩ := openQ_back ⟨4, ⟨#[102]⟩, ⟨#[]⟩, 0⟩ (by simp) (by simp) (by show 1 ≤ 20000; omega) (by show 0 ≤ 20000; omega) ⟨by simp, by simp⟩ (by rw [knownQ]; simp)
  have hop := Lib.hid hop
  rename_i hop'
  clear hop'
  have hpp : openP (rpE ⟨4, 0, 0, [⟨1, 2⟩], ⟨#[]⟩, 0⟩) = some ⟨4, 0, 0, [⟨1, 2⟩], ⟨#[]⟩, 0⟩ := openP_back ⟨4, 0, 0, [⟨1, 2⟩], ⟨#[]⟩, 0⟩ (by simp) (by simp) ⟨by simp, by simp⟩ ⟨by simp, by simp⟩ (by simp) (by intro a ha; simp at ha; subst ha; exact ⟨⟨by simp, by simp⟩, ⟨by simp, by simp⟩⟩) (by show 0 ≤ 20000; omega) ⟨by simp, by simp⟩
  have hpp := Lib.hid hpp
  rename_i hpp'
  clear hpp'
  go_enter Try.func42, Try.ntmps42
  go_wp2_with fail
  refine (bytesQ_any W 4 ⟨#[102]⟩ ⟨#[]⟩ 0 ⟨by omega, by omega⟩ (by show 1 ≤ 20000; omega) (by show 0 ≤ 20000; omega) ⟨by omega, by omega⟩).mono ?_
  rintro e w1 ⟨A, c, rfl, hA0, hc0, hb0⟩
  rw [hq.out] at hA0 hc0 ⊢
  have hA := Lib.hid hA0
  have hb1 := Lib.hid hb0
  clear hA0 hb0
  go_wp2_with fail
  refine (openQ_any w1 A 5 c _ hA.out rfl (by omega)).mono ?_
  rintro e w2 ⟨rfl, hb2⟩
  rw [← hq.out, hop.out]
  unfold retQ
  simp only
  have hA2 := Lib.hid (hA.out.up hb2)
  have hb2 := Lib.hid (hb1.out.trans (hb2.mono hb1.out.size))
  rename_i hb2'
  clear hb2' hA hb1
  have hbn := below_new w2 (.cells #[.int .i64 4, .string ⟨#[102]⟩, .string ⟨#[]⟩, .int .i64 0] 78)
  have hr2 := Lib.hid (Holds.new w2 78 #[.int .i64 4, .string ⟨#[102]⟩, .string ⟨#[]⟩, .int .i64 0])
  have hA3 := Lib.hid (hA2.out.up hbn)
  have hb3 := Lib.hid (hb2.out.trans (hbn.mono hb2.out.size))
  clear hbn hA2 hb2
  go_wp2_with fail
  generalize w2.alloc (.cells #[.int .i64 4, .string ⟨#[102]⟩, .string ⟨#[]⟩, .int .i64 0] 78) = w3 at hr2 hA3 hb3 ⊢
  generalize w2.heap.size = r2 at hr2 ⊢
  refine (openQ_any w3 none 0 0 [] (Row.nil_ _ _ _) rfl (by omega)).mono ?_
  rintro e w4 ⟨rfl, hb4⟩
  rw [openQ_nil]
  unfold retQ
  simp only
  have hA4 := Lib.hid (hA3.out.up hb4)
  have hr4 := Lib.hid (hr2.out.below hb4 hr2.out.lt)
  have hb4 := Lib.hid (hb3.out.trans (hb4.mono hb3.out.size))
  rename_i hb4'
  clear hb4' hA3 hr2 hb3
  go_wp2_with fail
  have hbn5 := below_new w4 (.cells #[.int .i64 0, .string ⟨#[]⟩, .string ⟨#[]⟩, .int .i64 0] 78)
  have hA5 := Lib.hid (hA4.out.up hbn5)
  have hr5 := Lib.hid (hr4.out.below hbn5 hr4.out.lt)
  have hb5 := Lib.hid (hb4.out.trans (hbn5.mono hb4.out.size))
  have hs5 : (w4.alloc (.cells #[.int .i64 0, .string ⟨#[]⟩, .string ⟨#[]⟩, .int .i64 0] 78)).heap.size = w4.heap.size + 1 := by simp
  clear hbn5 hA4 hr4 hb4
  generalize w4.alloc (.cells #[.int .i64 0, .string ⟨#[]⟩, .string ⟨#[]⟩, .int .i64 0] 78) = w5 at hA5 hr5 hb5 hs5 ⊢
  rw [← hs5]
  clear hs5
  have hbn6 := below_new w5 (.cells #[.int .i64 1, .int .i64 2] 75)
  have hA6 := Lib.hid (hA5.out.up hbn6)
  have hr6 := Lib.hid (hr5.out.below hbn6 hr5.out.lt)
  have hb6 := Lib.hid (hb5.out.trans (hbn6.mono hb5.out.size))
  have hrw := Row.fresh w5 75 [.int .i64 1, .int .i64 2]
  clear hbn6 hA5 hr5 hb5
  generalize w5.heap.size = ra at hrw ⊢
  generalize w5.alloc (.cells #[.int .i64 1, .int .i64 2] 75) = w6 at hA6 hr6 hb6 hrw ⊢
  refine (bytesP_any w6 4 0 0 _ 1 1 [⟨1, 2⟩] ⟨#[]⟩ 0 ⟨by omega, by omega⟩ ⟨by omega, by omega⟩ ⟨by omega, by omega⟩ rfl (by omega) (by intro a ha; simp at ha; subst ha; exact ⟨⟨by simp, by simp⟩, ⟨by simp, by simp⟩⟩) hrw (by show 0 ≤ 20000; omega) ⟨by omega, by omega⟩).mono ?_
  rintro e w7 ⟨A2, c2, rfl, hP7, hc7, hb7⟩
  have hA7 := Lib.hid (hA6.out.up hb7)
  have hr7 := Lib.hid (hr6.out.below hb7 hr6.out.lt)
  have hb7' := Lib.hid (hb6.out.trans (hb7.mono hb6.out.size))
  have hP7 := Lib.hid hP7
  clear hb7 hA6 hr6 hb6 hrw
  go_wp2_with fail
  refine (openP_any w7 A2 _ c2 _ hP7.out rfl (by rw [knownP]; simp)).mono ?_
  rintro e w8 ⟨hR, hb8⟩
  have hA8 := Lib.hid (hA7.out.up hb8)
  have hr8 := Lib.hid (hr7.out.below hb8 hr7.out.lt)
  have hb8' := Lib.hid (hb7'.out.trans (hb8.mono hb7'.out.size))
  unfold RetP at hR
  rw [hpp.out] at hR
  obtain ⟨A3, c3, rfl, hrow, hc3⟩ := hR
  clear hb8 hA7 hr7 hb7' hP7 hrow
  have hbn9 := below_new w8 (.cells #[.int .i64 4, .int .i64 0, .int .i64 0, .slice A3 1 c3, .string ⟨#[]⟩, .int .i64 0] 86)
  have hA9 := Lib.hid (hA8.out.up hbn9)
  have hr9 := Lib.hid (hr8.out.below hbn9 hr8.out.lt)
  have hs9 := Lib.hid (Holds.new w8 86 #[.int .i64 4, .int .i64 0, .int .i64 0, .slice A3 1 c3, .string ⟨#[]⟩, .int .i64 0])
  have hb9 := Lib.hid (hb8'.out.trans (hbn9.mono hb8'.out.size))
  clear hbn9 hA8 hr8 hb8'
  have kv := run_text (P := Try.prog) _ 26 5 Try.underlying26 Try.underlying5 A 5 c _ rfl hA9.out 9 Try.underlying9
  have cr0 := hr9.out.cell 0
  have cr1 := hr9.out.cell 1
  have cs3 := hs9.out.cell 3
  simp only [show (#[Value.int .i64 4, .string ⟨#[102]⟩, .string ⟨#[]⟩, .int .i64 0] : Array Value)[0]? = some (.int .i64 4) from rfl, show (#[Value.int .i64 4, .string ⟨#[102]⟩, .string ⟨#[]⟩, .int .i64 0] : Array Value)[1]? = some (.string ⟨#[102]⟩) from rfl, show (#[Value.int .i64 4, .int .i64 0, .int .i64 0, .slice A3 1 c3, .string ⟨#[]⟩, .int .i64 0] : Array Value)[3]? = some (.slice A3 1 c3) from rfl] at cr0 cr1 cs3
  have hstr : Hid (strV [4, 1, 102, 0, 0] = ⟨#[4, 1, 102, 0, 0]⟩) := Lib.hid rfl
  rw [hstr.out] at kv
  clear hr9 hs9 hA9 hstr
  go_wp2_with fail
  go_ret
  exact ⟨rfl, hb9.out⟩
end Go.Proofs.Ytimhghmnnibajaa
