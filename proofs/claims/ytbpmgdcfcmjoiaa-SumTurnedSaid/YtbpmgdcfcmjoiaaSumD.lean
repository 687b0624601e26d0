/-
  The walk of the statements' own 'known'.
-/
import Derived.Test.YtbpmgdcfcmjoiaaSumB
import Derived.Test.YtbpmgdcfcmjoiaaSumC
namespace Go.Proofs.Ytbpmgdcfcmjoiaa
open Go.RowKit

def bytes1 : Array Value := #[.int .u8 49, .int .u8 50, .int .u8 51, .int .u8 52, .int .u8 53]
def bytes2 : Array Value := #[.int .u8 54, .int .u8 55, .int .u8 56, .int .u8 57]
theorem known_slices (w : World) (s t : TypeId) : ∀ W : World, W = (((w.alloc (.cells bytes1 s (5, 6))).alloc (.cells bytes2 s (4, 5))).alloc (.cells #[.slice (some ⟨w.heap.size, 0, none⟩) 5 5, .slice (some ⟨w.heap.size + 1, 0, none⟩) 4 4] t)) →
    Slices W W.heap.size (some ⟨w.heap.size + 1 + 1, 0, none⟩) [[49, 50, 51, 52, 53], [54, 55, 56, 57]] ∧ Below w.heap.size w W := by
  intro W hW
  have z : W.heap.size = w.heap.size + 1 + 1 + 1 := by rw [hW]; simp
  have h3 : W.heap[w.heap.size + 1 + 1]? = some (.cells #[.slice (some ⟨w.heap.size, 0, none⟩) 5 5, .slice (some ⟨w.heap.size + 1, 0, none⟩) 4 4] t) := by
    rw [hW]; have := heap_alloc_new ((w.alloc (.cells bytes1 s (5, 6))).alloc (.cells bytes2 s (4, 5))) (.cells #[.slice (some ⟨w.heap.size, 0, none⟩) 5 5, .slice (some ⟨w.heap.size + 1, 0, none⟩) 4 4] t)
    simp only [World.size_alloc] at this
    exact this
  have h2 : W.heap[w.heap.size + 1]? = some (.cells bytes2 s (4, 5)) := by
    rw [hW, Below.heap_alloc _ _ _ (by simp)]
    have := heap_alloc_new (w.alloc (.cells bytes1 s (5, 6))) (.cells bytes2 s (4, 5))
    simp only [World.size_alloc] at this
    exact this
  have h1 : W.heap[w.heap.size]? = some (.cells bytes1 s (5, 6)) := by
    rw [hW, Below.heap_alloc _ _ _ (by simp; omega), Below.heap_alloc _ _ _ (by simp)]
    exact heap_alloc_new _ _
  refine ⟨⟨_, rfl, Row.ofBlock h3 (by omega), fun i hi => ?_⟩, by rw [hW]; exact (((Below.refl _ _).alloc (Nat.le_refl _) _).alloc (by simp) _).alloc (by simp; omega) _⟩
  match i, hi with
  | 0, _ => exact ⟨_, _, rfl, Row.ofBlock h1 (by omega), by simp [maxLen]⟩
  | 1, _ => exact ⟨_, _, rfl, Row.ofBlock h2 (by omega), by simp [maxLen]⟩

set_option maxHeartbeats 400000 in
theorem known_any (w : World) :
    Calls Try.prog 7 #[] w fun e w' => e = .returned (.bool true) ∧ Below w.heap.size w w' := by
  have k1 := fun (w : World) (C : Array Value) (n c : Nat) => Lib.run_convert_bytes_const (P := Try.prog) w 33 5 C n c Try.underlying33 Try.underlying5
  have k2 : ∀ (w : World) (o : Obj) (C : Array Value) (n c : Nat), (convert 33 33 (.slice (some ⟨w.heap.size + 1, 0, none⟩) n c)).run Try.prog ((w.alloc o).alloc (.cells C 5)) = .ok (.slice (some ⟨w.heap.size + 1, 0, none⟩) n c) ((w.alloc o).alloc (.cells C 5 (C.size, C.size + 1))) :=
    fun w o C n c => by simpa using k1 (w.alloc o) C n c
  go_enter Try.func7, Try.ntmps7
  go_wp2_with fail
  (with_reducible refine (crc_len _ _ _ _ [[49, 50, 51, 52, 53], [54, 55, 56, 57]] ?hs ?hn ?hm).mono ?_)
  case hn => rfl
  case hm => decide
  case hs => exact (known_slices w _ _ _ rfl).1
  rintro e w1 ⟨he, hb1⟩
  have hb := (known_slices w _ _ _ rfl).2.trans (hb1.mono (B' := w.heap.size) (by simp; omega))
  rw [known1] at he
  subst he
  clear hb1
  go_wp2_with fail
  (with_reducible refine (print_len _ _ _ _ [] ?hs2 ?hq2 ?hn2 ?hm2).mono ?_)
  case hs2 => exact Row.nil_ _ _ _
  case hq2 => simp
  case hn2 => rfl
  case hm2 => decide
  rintro e w2 ⟨he, rfl⟩
  rw [known2] at he
  subst he
  go_wp2_with fail
  (with_reducible refine (print_len _ _ _ _ [⟨#[97]⟩, ⟨#[98]⟩] ?hs3 ?hq3 ?hn3 ?hm3).mono ?_)
  case hn3 => rfl
  case hm3 => decide
  case hq3 => intro s hs; simp at hs; rcases hs with rfl | rfl <;> decide
  case hs3 => exact Row.ofBlock (heap_alloc_new _ _) (by simp)
  rintro e w2 ⟨rfl, rfl⟩
  go_wp2_with fail
  (with_reducible refine (print_len _ _ _ _ [⟨#[97, 98]⟩] ?hs4 ?hq4 ?hn4 ?hm4).mono ?_)
  case hn4 => rfl
  case hm4 => decide
  case hq4 => intro s hs; simp at hs; subst hs; decide
  case hs4 => exact Row.ofBlock (by simpa using heap_alloc_new (w1.alloc _) _) (by simp)
  rintro e w2 ⟨rfl, rfl⟩
  have hne : ((printOf [⟨#[97]⟩, ⟨#[98]⟩] : Int) != printOf [⟨#[97, 98]⟩]) = true := bne_iff_ne.2 known3
  go_wp2
  go_ret
  exact ⟨rfl, (hb.alloc hb.size _).alloc (by have := hb.size; simp; omega) _⟩

end Go.Proofs.Ytbpmgdcfcmjoiaa
