/-
  The walks of package code's writer: Int, Bool; NewWriter.
-/
import Derived.Test.YtimhghmnnibajaaCodeA
namespace Go.Proofs.Ytimhghmnnibajaa
open Go.RowKit

theorem Wrt.below {w w' : World} {B g : Nat} {t : TypeId} {v : Value} {l : List UInt8} (h : Wrt w B g t v l) (hb : Below w.heap.size w w') : Wrt w' B g t v l :=
  ⟨h.cell.below hb h.cell.lt, own_below h.own hb, h.low, h.kind⟩
theorem Wrt.lt {w : World} {B g : Nat} {t : TypeId} {v : Value} {l : List UInt8} (h : Wrt w B g t v l) {k : Nat} (hk : w.heap.size ≤ k) : some k ∉ [some g, v.ownBlock] := by
  simp only [List.mem_cons, List.mem_nil_iff, or_false, not_or]
  refine ⟨fun e => ?_, own_lt h.own hk⟩
  have := h.cell.lt
  injection e with e
  omega

/-- What a writer's method leaves. -/
def Wrote (w : World) (B g : Nat) (t : TypeId) (v : Value) (l : List UInt8) (e : Ending) (w' : World) : Prop :=
  e = .returned (.tuple #[]) ∧ ∃ v', Wrt w' B g t v' l ∧ Writes [some g, v.ownBlock] w w' ∧ Fresh w v v'

/-- Num of one number, made on the spot. -/
theorem num_one (w : World) (B g : Nat) (t : TypeId) (v : Value) (l : List UInt8) (z : Int) (hw : Wrt w B g t v l) (hB : B ≤ w.heap.size) (h0 : 0 ≤ z) (h1 : z < 18446744073709551616) (hlen : l.length ≤ 99999999990) :
    Calls Try.prog 27 #[.pointer (some ⟨g, 0, none⟩), .slice (some ⟨w.heap.size, 0, none⟩) 1 1] (w.alloc (.cells #[.int .u64 z] 37)) (Wrote w B g t v (l ++ numE z.toNat)) := by
  obtain ⟨n, rfl⟩ := Int.eq_ofNat_of_zero_le h0
  have hb := below_new w (.cells #[.int .u64 (n : Int)] 37)
  refine (num_any (w.alloc _) B g t v l (some ⟨w.heap.size, 0, none⟩) 1 [n] (hw.below hb) (by simp; omega) (by simp; omega) (Row.one w _ _) (fun _ => hw.lt (Nat.le_refl _)) (by simp; omega)).mono ?_
  rintro e w' ⟨he, v', hv, hM, hF⟩
  refine ⟨he, v', by simpa using hv, (Writes.of_below hb _).trans hM, ?_⟩
  rcases hF with h | ⟨k, h1, h2⟩
  · exact .inl h
  · exact .inr ⟨k, h1, by simp at h2; omega⟩

/-- Where a loop over the arguments stands, f being what one of them is written as. -/
def AtW {α : Type} (f : α → List UInt8) (w : World) (B g : Nat) (t : TypeId) (v : Value) (l : List UInt8) (zs : List α) (k : Nat) (wr : World) : Prop :=
  ∃ u, Wrt wr B g t u (l ++ (zs.take k).flatMap f) ∧ Writes [some g, v.ownBlock] w wr ∧ Fresh w v u
theorem AtW.step {α : Type} {f : α → List UInt8} {w wr w' : World} {B g : Nat} {t : TypeId} {v u : Value} {l cur : List UInt8} {zs : List α} {k : Nat} (hk : k < zs.length) (hc : l ++ (zs.take k).flatMap f = cur) (hM : Writes [some g, v.ownBlock] w wr) (hF : Fresh w v u)
    {e : Ending} (h : Wrote wr B g t u (cur ++ f zs[k]) e w') : AtW f w B g t v l zs (k + 1) w' := by
  obtain ⟨_, u', h1, h2, h3⟩ := h
  refine ⟨u', by rw [flat_take f zs k hk, ← List.append_assoc, hc]; exact h1, writes_then hM hF h2, hF.trans h3 hM.size⟩
theorem flat_len' {α : Type} (f : α → List UInt8) (n : Nat) (l : List α) (h : ∀ x ∈ l, (f x).length ≤ n) (k : Nat) : ((l.take k).flatMap f).length ≤ n * k := by
  induction l generalizing k with
  | nil => simp
  | cons a r ih =>
    cases k with
    | zero => simp
    | succ k =>
      have h1 := h a (List.mem_cons_self ..)
      have h2 := ih (fun x hx => h x (List.mem_cons_of_mem _ hx)) k
      simp only [List.take_succ_cons, List.flatMap_cons, List.length_append]
      rw [Nat.mul_succ]
      omega
theorem zigN_lt (z : Int) (h1 : -9223372036854775808 ≤ z) (h2 : z ≤ 9223372036854775807) : zigN z < 18446744073709551616 := by
  unfold zigN
  split <;> omega
def i64V (z : Int) : Value := .int .i64 z

set_option maxRecDepth 100000 in
set_option maxHeartbeats 2000000 in
theorem int_any (w : World) (B g : Nat) (t : TypeId) (v : Value) (l : List UInt8) (A : Option Addr) (c : Nat) (zs : List Int) (hw : Wrt w B g t v l) (hB : B ≤ w.heap.size)
    (hz : ∀ z ∈ zs, -9223372036854775808 ≤ z ∧ z ≤ 9223372036854775807) (hA : Row w w.heap.size A (zs.map i64V)) (hoff : zs ≠ [] → blk A ∉ [some g, v.ownBlock]) (hlen : l.length + 10 * zs.length ≤ 99999999990) :
    Calls Try.prog 16 #[.pointer (some ⟨g, 0, none⟩), .slice A zs.length c] w (Wrote w B g t v (l ++ zs.flatMap intE)) := by
  have hll := Lib.hid (flat_len' intE 10 zs fun z h => numE_len10 _ (zigN_lt z (hz z h).1 (hz z h).2))
  go_enter Try.func16, Try.ntmps16
  go_wp2
  have hA := Lib.hid hA
  have hoff := Lib.hid hoff
  have hz := Lib.hid hz
  go_loopw [8] (fun i wr => ∃ k : Nat, k ≤ zs.length ∧ i = .int .i64 k ∧ AtW intE w B g t v l zs k wr) (fun i _ => zs.length - (intOf i).toNat)
  case atStart => exact ⟨0, by omega, rfl, v, by simpa using hw, Writes.refl _ _, Fresh.refl _ _⟩
  case round =>
    obtain ⟨k, hk, rfl, u, hu, hM, hF⟩ := hrel
    by_cases hlt : k < zs.length
    · obtain ⟨b, off, rfl, hb, hcell0⟩ := (hM.row hA.out (Nat.le_refl _) (fun _ => hoff.out (by rintro rfl; simp at hlt))).at_ (k := k) (by simpa using hlt)
      have hzk := hz.out zs[k] (List.getElem_mem hlt)
      have hcell : wr.cell? ⟨b, off + k, none⟩ = some (.int .i64 zs[k]) := by rw [hcell0]; simp [i64V]
      clear hcell0
      have hlk := hll.out k
      have hsz := hM.size
      have hu := Lib.hid hu
      have hnx : Hid (∀ e w', Wrote wr B g t u (l ++ (zs.take k).flatMap intE ++ intE zs[k]) e w' → AtW intE w B g t v l zs (k + 1) w') := Lib.hid fun e w' h => AtW.step hlt rfl hM hF h
      have hcl : (l ++ (zs.take k).flatMap intE).length ≤ 99999999990 := by simp only [List.length_append]; omega
      generalize l ++ (zs.take k).flatMap intE = cur at *
      generalize hzd : zs[k] = zk at *
      clear hzd
      by_cases h0 : 0 ≤ zk
      · go_wp2_with fail
        (with_reducible refine (num_one _ B g t u cur _ hu.out ?b1 ?b2 ?b3 ?b4).mono ?_)
        case b1 => omega
        case b2 => omega
        case b3 => omega
        case b4 => omega
        intro e w' h
        rw [show numE (zk * 2).toNat = intE zk by unfold intE zigN; rw [if_pos h0]; congr 1; omega] at h
        have h2 := hnx.out e w' h
        obtain ⟨rfl, _⟩ := h
        go_wp2
        go_roundw
        case rel => exact ⟨k + 1, by omega, by go_num, h2⟩
        case measure => simp [intOf]; omega
      · go_wp2_with fail
        (with_reducible refine (num_one _ B g t u cur _ hu.out ?b1 ?b2 ?b3 ?b4).mono ?_)
        case b1 => omega
        case b2 => omega
        case b3 => omega
        case b4 => omega
        intro e w' h
        rw [show numE (-(zk + 1) * 2 + 1).toNat = intE zk by unfold intE zigN; rw [if_neg (by omega)]; congr 1; omega] at h
        have h2 := hnx.out e w' h
        obtain ⟨rfl, _⟩ := h
        go_wp2
        go_roundw
        case rel => exact ⟨k + 1, by omega, by go_num, h2⟩
        case measure => simp [intOf]; omega
    · obtain rfl : k = zs.length := by omega
      rw [List.take_length] at hu
      go_wp2
      go_end0
      exact ⟨rfl, u, hu, hM, hF⟩

end Go.Proofs.Ytimhghmnnibajaa
