/-
  The walk of the statement SumTells: light lists of parts have the document's sums; heavy ones are not asked.
-/
import Derived.Test.YtbpmgdcfcmjoiaaSumD
import Derived.Test.YtbpmgdcfcmjoiaaSumE
import Derived.Test.YtbpmgdcfcmjoiaaSumF
namespace Go.Proofs.Ytbpmgdcfcmjoiaa
open Go.RowKit

theorem refcrc_len (w : World) (A : Option Addr) (n c : Nat) (ls : List (List UInt8)) (hl : Slices w w.heap.size A ls) (hn : ls.length = n) (hm : n ≤ maxLen) :
    Calls Try.prog 10 #[.slice A n c] w fun e w' => e = .returned (.int .u32 (crcOf ls : Nat)) ∧ w = w' := by
  subst hn
  exact refcrc_any w A c ls hm hl
theorem refprint_len (w : World) (A : Option Addr) (n c : Nat) (ss : List ByteArray) (hl : Strs w w.heap.size A ss) (hs : ∀ s ∈ ss, s.size ≤ maxLen) (hn : ss.length = n) (hm : n ≤ maxLen) :
    Calls Try.prog 13 #[.slice A n c] w fun e w' => e = .returned (.int .u64 (printOf ss : Nat)) ∧ w = w' := by
  subst hn
  exact refprint_any w A c ss hm hs hl

set_option maxHeartbeats 1000000 in
theorem tells_any (w : World) (A : Option Addr) (c : Nat) (ls : List (List UInt8)) (hn : ls.length ≤ maxLen) (hl : Slices w w.heap.size A ls) :
    Calls Try.prog 3 #[.slice A ls.length c] w fun e w' => e = .returned (.bool true) ∧ Below w.heap.size w w' := by
  go_enter Try.func3, Try.ntmps3
  go_wp2_with fail
  refine (known_any _).mono ?_
  rintro e w1 ⟨rfl, hb1⟩
  have hl1 := (hl.below hb1).more hb1.size
  go_wp2_with fail
  refine (light_any _ _ _ ls hn hl1).mono ?_
  rintro e w2 ⟨rfl, rfl⟩
  rcases hlb : lightB ls with _ | _
  · clear hlb
    go_wp2
    go_ret
    exact ⟨rfl, hb1⟩
  · have h20 := lightB_len hlb
    have h300 := Lib.hid (lightB_at hlb)
    clear hlb
    go_wp2_with fail
    refine (crc_any _ _ _ ls hn hl1).mono ?_
    rintro e w2 ⟨rfl, hb2⟩
    have hl2 := (hl1.below hb2).more hb2.size
    have hB2 := hb1.trans (hb2.mono hb1.size)
    clear hl1 hb2 hb1
    go_wp2_with fail
    refine (refcrc_any _ _ _ ls hn hl2).mono ?_
    rintro e w3 ⟨rfl, rfl⟩
    go_wp2_with fail
    refine (texts_any _ _ _ ls (by omega) hl2).mono ?_
    rintro e w3 ⟨⟨A3, c3, rfl, hs3⟩, hb3⟩
    have hl3 := (hl2.below hb3).more hb3.size
    have hB3 := hB2.trans (hb3.mono hB2.size)
    clear hl2 hb3 hB2
    have hsz : ∀ s ∈ ls.map strV, s.size ≤ maxLen := by
      intro s hs
      obtain ⟨l, hl, rfl⟩ := List.mem_map.1 hs
      obtain ⟨i, hi, rfl⟩ := List.getElem_of_mem hl
      rw [strV_size]
      have := h300.out i hi
      unfold maxLen
      omega
    have hsz := Lib.hid hsz
    go_wp2_with fail
    ((with_reducible refine (print_len _ _ _ _ (ls.map strV) hs3 hsz.out ?hn ?hm).mono ?_))
    case hn => simp
    case hm => exact hn
    rintro e w4 ⟨rfl, rfl⟩
    go_wp2_with fail
    refine (texts_any _ _ _ ls (by omega) hl3).mono ?_
    rintro e w5 ⟨⟨A5, c5, rfl, hs5⟩, hb5⟩
    have hB5 := hB3.trans (hb5.mono hB3.size)
    go_wp2_with fail
    ((with_reducible refine (refprint_len _ _ _ _ (ls.map strV) hs5 hsz.out ?hn ?hm).mono ?_))
    case hn => simp
    case hm => exact hn
    rintro e w4 ⟨rfl, rfl⟩
    go_wp2
    go_ret
    exact ⟨rfl, hB5⟩

end Go.Proofs.Ytbpmgdcfcmjoiaa
