/-
  The walk of ReqGreat.
-/
import Derived.Test.YtimhghmnnibajaaRqN
import Derived.Deep.OwnRows
namespace Go.Proofs.Ytimhghmnnibajaa
open Go.RowKit Go.ChangeShapes Go.WideShapes Go.Deep

theorem made_bytes (n : Nat) : madeCells #[.int .u8 0] n = ((List.replicate n (0 : UInt8)).map byteV).toArray := by
  apply Array.ext
  · simp [madeCells]
  · intro i h1 h2
    simp [madeCells, byteV, Nat.mod_one]
set_option maxRecDepth 100000 in
set_option maxHeartbeats 16000000 in
theorem great_any (W : World) (n : Nat) :
    Calls Try.prog 11 #[.int .u8 n] W fun e w' => e = .returned (.bool true) ∧ Below W.heap.size W w' := by
  obtain ⟨m, hm, hm12⟩ : ∃ m : Nat, Int.tmod n 12 = m ∧ m < 12 := ⟨n % 12, by rw [show (12 : Int) = ((12 : Nat) : Int) from rfl, ← Int.ofNat_tmod], by omega⟩
  have hmk := run_make_row' (P := Try.prog) 26 5 (.int .u8 0) 1 Try.underlying26 Try.infoByte rfl .i64 .i64 (8184 + m) (by omega) (by omega)
  rw [made_bytes, show ((8184 + m : Nat) : Int) = 8184 + (m : Int) by omega] at hmk
  obtain ⟨zs, hzs⟩ : ∃ zs, zs = ((List.replicate (8184 + m) (0 : UInt8)).map byteV).toArray := ⟨_, rfl⟩
  rw [← hzs] at hmk
  have hrw : ∀ w1 : World, Bytes (w1.alloc (.cells zs 5)) (w1.alloc (.cells zs 5)).heap.size (some ⟨w1.heap.size, 0, none⟩) (List.replicate (8184 + m) (0 : UInt8)) := fun w1 => by rw [hzs]; exact Row.fresh w1 5 _
  clear hzs
  have hrw := Lib.hid hrw
  rename_i hrw'
  clear hrw'
  go_enter Try.func11, Try.ntmps11
  go_wp2_with fail
  refine (known24_any _).mono ?_
  rintro e w1 ⟨rfl, hbl⟩
  have hbl := Lib.hid hbl
  have hrow := hrw.out w1
  have hbn := below_new w1 (.cells zs 5)
  have kv := run_text (P := Try.prog) _ 26 5 Try.underlying26 Try.underlying5 (some ⟨w1.heap.size, 0, none⟩) (8184 + m) (8184 + m) _ (by simp) hrow 9 Try.underlying9
  have hbl2 := Lib.hid (hbl.out.trans (hbn.mono hbl.out.size))
  obtain ⟨text, htext⟩ : ∃ x, x = strV (List.replicate (8184 + m) (0 : UInt8)) := ⟨_, rfl⟩
  rw [← htext] at kv
  have htz : text.size ≤ 20000 := by rw [htext, strV_size]; simp; omega
  have htz := Lib.hid htz
  rename_i htz'
  clear htz' htext hbn hrow
  rename_i hbl'
  clear hbl'
  go_wp2_with fail
  generalize w1.alloc (.cells zs 5) = w2 at hbl2 ⊢
  clear kv hbl hmk
  refine (bytesQ_any w2 1 ⟨#[]⟩ text 0 ⟨by omega, by omega⟩ (by show 0 ≤ 20000; omega) htz.out ⟨by omega, by omega⟩).mono ?_
  rintro e w3 ⟨A, c, rfl, hA, hc, hb3⟩
  have hlen := rqE_len (r := ⟨1, ⟨#[]⟩, text, 0⟩) (M := 20000) ⟨by show _ ≤ (1 : Int); omega, by show (1 : Int) ≤ _; omega⟩ (by show 0 ≤ 20000; omega) htz.out (by omega) ⟨by show _ ≤ (0 : Int); omega, by show (0 : Int) ≤ _; omega⟩
  have ho1 : Hid (¬ 8192 < (rqE ⟨1, ⟨#[]⟩, text, 0⟩).length → openQ (rqE ⟨1, ⟨#[]⟩, text, 0⟩) = some ⟨1, ⟨#[]⟩, text, 0⟩) := Lib.hid fun h => openQ_back _ (by simp) (by simp) (by show 0 ≤ 20000; omega) htz.out ⟨by simp, by simp⟩ h
  have ho2 : Hid (8192 < (rqE ⟨1, ⟨#[]⟩, text, 0⟩).length → openQ (rqE ⟨1, ⟨#[]⟩, text, 0⟩) = none) := Lib.hid fun h => by unfold openQ; rw [if_pos h]
  generalize rqE ⟨1, ⟨#[]⟩, text, 0⟩ = q at *
  have hA := Lib.hid hA
  rename_i hA'
  have hb3' := Lib.hid (hbl2.out.trans (hb3.mono hbl2.out.size))
  have hlen' := Lib.hid hlen
  clear hA' hb3 hlen hc hbl2
  go_wp2_with fail
  refine (openQ_any w3 A q.length c q hA.out rfl (by have := hlen'.out; omega)).mono ?_
  rintro e w4 ⟨rfl, hb4⟩
  have hb4' := Lib.hid (hb3'.out.trans (hb4.mono hb3'.out.size))
  clear hb4 hb3' hA
  have hl := hlen'.out
  clear hlen'
  by_cases hc : 8192 < q.length
  · rw [ho2.out hc]
    unfold retQ
    simp only
    have hb5 := Lib.hid (hb4'.out.trans ((below_new w4 (.cells #[.int .i64 0, .string ⟨#[]⟩, .string ⟨#[]⟩, .int .i64 0] 78)).mono hb4'.out.size))
    clear hb4'
    go_wp2_with fail
    go_ret
    exact ⟨by have : ¬ (q.length : Int) ≤ 8192 := by omega
              show Ending.returned (Value.bool !decide ((q.length : Int) ≤ 8192)) = _
              simp [this], hb5.out⟩
  · rw [ho1.out hc]
    unfold retQ
    simp only
    have hb5 := Lib.hid (hb4'.out.trans ((below_new w4 (.cells #[.int .i64 1, .string ⟨#[]⟩, .string text, .int .i64 0] 78)).mono hb4'.out.size))
    clear hb4'
    go_wp2_with fail
    go_ret
    exact ⟨by have : (q.length : Int) ≤ 8192 := by omega
              show Ending.returned (Value.bool (decide ((q.length : Int) ≤ 8192))) = _
              simp [this], hb5.out⟩
theorem great_walk (W : World) (v0 : Value) (o0 : ArgOk 5 W v0) :
    Calls Try.prog 11 #[v0] W fun e w' => e = .returned (.bool true) ∧ Below W.heap.size W w' := by
  obtain ⟨n, rfl, _⟩ := o0.u8
  exact great_any W n
end Go.Proofs.Ytimhghmnnibajaa
