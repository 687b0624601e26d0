/-
  PtsOrder at any arguments.
-/
import Derived.Test.YtkohobkeapcpfaaPtVa
import Derived.Test.YtkohobkeapcpfaaPtVb
import Derived.Test.YtkohobkeapcpfaaPtVc
import Derived.Test.YtkohobkeapcpfaaPtVd
import Derived.Test.YtkohobkeapcpfaaPtVe
namespace Go.Proofs.Ytkohobkeapcpfaa
open Go.RowKit

theorem order_walk (w : World) (v1 v2 v3 : Value) (h1 : ArgOk 25 w v1) (h2 : ArgOk 25 w v2) (h3 : ArgOk 25 w v3) :
    Calls Try.prog 5 #[v1, v2, v3] w fun e w' => e = .returned (.bool true) ∧ Below w.heap.size w w' := by
  obtain ⟨⟨pa, Aa, ca⟩, rfl, ra, la, ma, _⟩ := h1.pts
  obtain ⟨⟨pb, Ab, cb⟩, rfl, rb, lb, mb, _⟩ := h2.pts
  obtain ⟨⟨pc, Ac, cc⟩, rfl, rc, lc, mc, _⟩ := h3.pts
  cases hxy : leqS (cz pa) (cz pb) with
  | false => exact order_f w pa pb pc Aa Ab Ac ca cb cc ra la (Nat.le_trans la ma) rb lb (Nat.le_trans lb mb) rc lc (Nat.le_trans lc mc) hxy
  | true =>
    cases hyx : leqS (cz pb) (cz pa) with
    | false =>
      cases hyz : leqS (cz pb) (cz pc) with
      | false => exact order_tff w pa pb pc Aa Ab Ac ca cb cc ra la (Nat.le_trans la ma) rb lb (Nat.le_trans lb mb) rc lc (Nat.le_trans lc mc) hxy hyx hyz
      | true => exact order_tft w pa pb pc Aa Ab Ac ca cb cc ra la (Nat.le_trans la ma) rb lb (Nat.le_trans lb mb) rc lc (Nat.le_trans lc mc) hxy hyx hyz
    | true =>
      cases hyz : leqS (cz pb) (cz pc) with
      | false => exact order_ttf w pa pb pc Aa Ab Ac ca cb cc ra la (Nat.le_trans la ma) rb lb (Nat.le_trans lb mb) rc lc (Nat.le_trans lc mc) hxy hyx hyz
      | true => exact order_ttt w pa pb pc Aa Ab Ac ca cb cc ra la (Nat.le_trans la ma) rb lb (Nat.le_trans lb mb) rc lc (Nat.le_trans lc mc) hxy hyx hyz
end Go.Proofs.Ytkohobkeapcpfaa
