/-
  The walks of package code's writer: Num.
-/
import Derived.Test.YtelglbblgkhcmaaGreatWr
import Derived.Test.YtelglbblgkhcmaaGreatRows
import Derived.Test.YtelglbblgkhcmaaGreatCodeP
namespace Go.Proofs.YtelglbblgkhcmaaGreat
open Go.RowKit

theorem Tryz.infoByte : (Tryz.prog.info? 5).map (fun i => (i.zero, i.size, i.bytes)) = some (some (.int .u8 0), 1, 1) := by kernel_rfl

/-- A writer at block g: its one cell holds the slice v, which owns the bytes l. -/
structure Wrt (w : World) (B g : Nat) (t : TypeId) (v : Value) (l : List UInt8) : Prop where
  cell : Holds w g t #[v]
  own : w.ownsRow B 5 1 v l.length (l.map byteV)
  low : B ≤ g
  kind : t ≠ 5

theorem Wrt.off {w : World} {B g : Nat} {t : TypeId} {v : Value} {l : List UInt8} (h : Wrt w B g t v l) : some g ≠ v.ownBlock := by
  rcases h.own.2 with ⟨rfl, _⟩ | ⟨k, cap, cur, rfl, _, hh, _⟩
  · simp [Value.ownBlock]
  · intro e
    have : g = k := by simpa [Value.ownBlock] using e
    subst this
    have h1 := h.cell
    unfold Holds at h1
    rw [hh] at h1
    injection h1 with h1
    injection h1 with _ h2
    exact h.kind h2.symm

/-- The row that a value owns is the one that v owned, or a new one. -/
def Fresh (w : World) (v v' : Value) : Prop := v'.ownBlock = v.ownBlock ∨ ∃ k, v'.ownBlock = some k ∧ w.heap.size ≤ k
theorem Fresh.refl (w : World) (v : Value) : Fresh w v v := .inl rfl
theorem Fresh.trans {w w' : World} {v v' v'' : Value} (h : Fresh w v v') (h' : Fresh w' v' v'') (hs : w.heap.size ≤ w'.heap.size) : Fresh w v v'' := by
  rcases h' with h' | ⟨k, h1, h2⟩
  · rcases h with h | ⟨k, h1, h2⟩
    · exact .inl (h'.trans h)
    · exact .inr ⟨k, h'.trans h1, h2⟩
  · exact .inr ⟨k, h1, by omega⟩
/-- What v' owns among the old blocks v owned. -/
theorem Fresh.old {w : World} {v v' : Value} (h : Fresh w v v') {k : Nat} (hk : k < w.heap.size) (e : some k = v'.ownBlock) : some k = v.ownBlock := by
  rcases h with h | ⟨j, h1, h2⟩
  · rw [← h]; exact e
  · rw [h1] at e
    injection e with e
    omega
/-- Two steps of a writer, one behind the other. -/
theorem writes_then {w w' w'' : World} {g : Nat} {v v' : Value} (h : Writes [some g, v.ownBlock] w w') (hf : Fresh w v v') (h' : Writes [some g, v'.ownBlock] w' w'') : Writes [some g, v.ownBlock] w w'' :=
  h.then_ h' fun k hk e => by
    simp only [List.mem_cons, List.mem_nil_iff, or_false] at e ⊢
    rcases e with e | e
    · exact .inl e
    · exact .inr (hf.old hk e)

/-- Bytes appended to the row, and the slice stored back. -/
theorem Wrt.grow {w wa w1 : World} {B g : Nat} {t : TypeId} {v v' : Value} {l bs : List UInt8} {n : Nat} {xs : List Value} (hw : Wrt w B g t v l) (hpre : Below w.heap.size w wa) (ho : w1.ownsRow B 5 1 v' n xs) (hn : n = (l ++ bs).length) (hxs : xs = (l ++ bs).map byteV)
    (hg : wa.grownBy w1 v.ownBlock) (hat : v'.ownBlock = v.ownBlock ∨ v'.ownBlock = some wa.heap.size) :
    Wrt (w1.setCell ⟨g, 0, none⟩ v') B g t v' (l ++ bs) ∧ Writes [some g, v.ownBlock] w (w1.setCell ⟨g, 0, none⟩ v') ∧ Fresh w v v' := by
  subst hn hxs
  have hc1 : Holds w1 g t #[v] := (hw.cell.below hpre hw.cell.lt).grown hg hw.off
  have hf : Fresh w v v' := by
    rcases hat with h | h
    · exact .inl h
    · exact .inr ⟨_, h, hpre.size⟩
  have hoff : some g ≠ v'.ownBlock := fun e => hw.off (hf.old hw.cell.lt e)
  refine ⟨⟨by have := hc1.store 0 v'; simpa using this, ?_, hw.low, hw.kind⟩, ?_, hf⟩
  · refine (Writes.store w1 (M := [some g]) (p := ⟨g, 0, none⟩) (by simp) v').own ho ?_
    right
    simp only [List.mem_cons, List.mem_nil_iff, or_false]
    exact fun e => hoff e.symm
  · refine (Writes.of_below hpre _).trans ((Writes.of_grown hg (by simp)).trans (Writes.store w1 (by simp) v'))

/-- Numbers as cells. -/
def u64V (n : Nat) : Value := .int .u64 n

theorem or128_u8 (m : Nat) : bits .or .u8 ((m : Int) % 256) 128 = ((m % 128 + 128 : Nat) : Int) := by
  have h := u8_or_nat (m % 256) 128 (by omega) (by omega)
  have e : (m % 256 ||| 128) = m % 128 + 128 := by
    have h1 : m % 256 < 256 := by omega
    have h2 : ∀ x, x < 256 → (x ||| 128) = x % 128 + 128 := by decide +kernel
    rw [h2 _ h1]
    omega
  rw [e] at h
  exact h
theorem bytes_snoc (l : List UInt8) (b : UInt8) (z : Int) (hz : z = (b.toNat : Int)) : l.map byteV ++ [Value.int .u8 z] = (l ++ [b]).map byteV := by
  subst hz
  rw [List.map_append]
  rfl
theorem own_form {w : World} {base : Nat} {e : TypeId} {size : Nat} {v : Value} {n : Nat} {xs : List Value} (h : w.ownsRow base e size v n xs) (hn : 0 < n) : ∃ g cap, v = .slice (some ⟨g, 0, none⟩) n cap ∧ base ≤ g := by
  rcases h.2 with ⟨_, h0⟩ | ⟨g, cap, cur, hv, hg, _⟩
  · omega
  · exact ⟨g, cap, hv, hg⟩
/-- Where the loop over the numbers stands. -/
def NumAt (w : World) (B g : Nat) (t : TypeId) (v : Value) (l : List UInt8) (ns : List Nat) (k : Nat) (wr : World) : Prop :=
  ∃ u, Wrt wr B g t u (l ++ (ns.take k).flatMap numE) ∧ Writes [some g, v.ownBlock] w wr ∧ Fresh w v u

set_option maxRecDepth 100000 in
set_option maxHeartbeats 2000000 in
theorem num_any (w : World) (B g : Nat) (t : TypeId) (v : Value) (l : List UInt8) (A : Option Addr) (c : Nat) (ns : List Nat) (hw : Wrt w B g t v l) (hB : B ≤ w.heap.size)
    (hn : ∀ n ∈ ns, n < 18446744073709551616) (hA : Row w w.heap.size A (ns.map u64V)) (hoff : ns ≠ [] → blk A ∉ [some g, v.ownBlock]) (hlen : l.length + 10 * ns.length ≤ 100000000000) :
    Calls Tryz.prog 81 #[.pointer (some ⟨g, 0, none⟩), .slice A ns.length c] w fun e w' =>
      e = .returned (.tuple #[]) ∧ ∃ v', Wrt w' B g t v' (l ++ ns.flatMap numE) ∧ Writes [some g, v.ownBlock] w w' ∧ Fresh w v v' := by
  obtain ⟨iA, hiA, hzA0, hzA1, hzA2⟩ := info_parts Tryz.infoByte
  go_enter Tryz.func81, Tryz.ntmps81
  go_wp2
  have hA := Lib.hid hA
  have hoff := Lib.hid hoff
  have hn := Lib.hid hn
  go_loopw [8] (fun i wr => ∃ k : Nat, k ≤ ns.length ∧ i = .int .i64 k ∧ NumAt w B g t v l ns k wr) (fun i _ => ns.length - (intOf i).toNat)
  case atStart => exact ⟨0, by omega, rfl, v, by simpa using hw, Writes.refl _ _, Fresh.refl _ _⟩
  case round =>
    obtain ⟨k, hk, rfl, hr⟩ := hrel
    by_cases hlt : k < ns.length
    · obtain ⟨u, hu, hM, hF⟩ := hr
      have hrow := (hM.row hA.out (Nat.le_refl _) (fun _ => hoff.out (by rintro rfl; simp at hlt))).at_ (k := k) (by simpa using hlt)
      obtain ⟨b, off, rfl, hb, hcell0⟩ := hrow
      have hnk := hn.out ns[k] (List.getElem_mem hlt)
      have hcell : wr.cell? ⟨b, off + k, none⟩ = some (.int .u64 (ns[k] : Nat)) := by rw [hcell0]; simp [u64V]
      clear hcell0
      have hft := Lib.hid (flat_take numE ns k hlt)
      have hfl : ((ns.take k).flatMap numE).length ≤ 10 * k := by
        have := flat_len (ns.take k) fun n h => hn.out n (List.mem_of_mem_take h)
        rw [List.length_take] at this
        omega
      generalize hmk : ns[k] = mk at *
      clear hmk
      go_wp2
      obtain ⟨wo, rfl⟩ : ∃ wo, wo = wr := ⟨_, rfl⟩
      go_loopw [5] (fun x ws => ∃ m u2 bs, x = .int .u64 (m : Nat) ∧ m < 18446744073709551616 ∧ Wrt ws B g t u2 (l ++ (ns.take k).flatMap numE ++ bs) ∧ bs ++ numE m = numE mk ∧ Writes [some g, v.ownBlock] w ws ∧ Fresh w v u2) (fun x _ => (intOf x).toNat)
      case atStart => exact ⟨mk, u, [], rfl, hnk, by simpa using hu, by simp, hM, hF⟩
      case round =>
        obtain ⟨m, u2, bs, rfl, hm, hu2, hbs, hM2, hF2⟩ := hrel
        have c2 : wr.cell? ⟨g, 0, none⟩ = some u2 := by rw [hu2.cell.cell 0]; rfl
        have f2 := hu2.cell.frozen 0
        have hsz := hM2.size
        have hbl : bs.length + (numE m).length ≤ 10 := by
          have h1 := congrArg List.length hbs
          rw [List.length_append] at h1
          have := numE_len10 mk hnk
          omega
        have hbs := Lib.hid hbs
        have hll : (l ++ (ns.take k).flatMap numE ++ bs).length ≤ 100000000000 := by simp only [List.length_append]; omega
        generalize hcur : l ++ (ns.take k).flatMap numE ++ bs = cur at hu2 hll
        have hcur := Lib.hid hcur
        have hu2 := Lib.hid hu2
        by_cases h128 : m < 128
        · have hne := Lib.hid (numE_small h128)
          go_wp2_with (at_builtin
                       refine wpList_append_row _ rfl (.tmp 32) (.tmp 35) 37 rfl B 5 iA (.int .u8 0) 1 Tryz.underlying37 hiA hzA0 hzA1 hzA2 rfl u2 _ _ rfl (hu2.out.own.alloc _) _ (some ⟨wr.heap.size, 0, none⟩) 1 1 [.int .u8 m] rfl rfl (Row.one _ _ _) (by intro u hu; simp at hu; subst hu; rfl) (by unfold maxLen; omega) (by omega) (by simp; omega) ?_
                       intro u3 w3 ho hg hat
                       obtain ⟨hw3, hM3, hF3⟩ := hu2.out.grow (bs := [UInt8.ofNat m]) (below_new _ _) ho (by simp) (bytes_snoc _ _ _ (by rw [UInt8.toNat_ofNat_of_lt' (show m < 256 by omega)])) hg hat
                       obtain ⟨g3, cap3, hv3, _⟩ := own_form ho (Nat.succ_pos _)
                       have c3 : w3.cell? ⟨g, 0, none⟩ = some u2 := by rw [((hu2.out.cell.alloc _).grown hg hu2.out.off).cell 0]; rfl
                       have f3 := ((hu2.out.cell.alloc (.cells #[.int .u8 m] 5)).grown hg hu2.out.off).frozen 0
                       subst hv3
                       clear ho hg hat c2 f2)
          go_roundw
          case rel => exact ⟨k + 1, by omega, by go_num, _, by rw [hft.out, ← hbs.out, hne.out, ← List.append_assoc, ← List.append_assoc, hcur.out]; exact hw3, writes_then hM2 hF2 hM3, hF2.trans hF3 hsz⟩
          case measure => simp [intOf]; omega
        · have hne := Lib.hid (numE_big h128)
          have hor := or128_u8 m
          go_wp2_with (at_builtin
                       refine wpList_append_row _ rfl (.tmp 18) (.tmp 22) 37 rfl B 5 iA (.int .u8 0) 1 Tryz.underlying37 hiA hzA0 hzA1 hzA2 rfl u2 _ _ rfl (hu2.out.own.alloc _) _ (some ⟨wr.heap.size, 0, none⟩) 1 1 _ rfl rfl (Row.one _ _ _) (by intro u hu; simp at hu; subst hu; rfl) (by unfold maxLen; omega) (by omega) (by simp; omega) ?_
                       intro u3 w3 ho hg hat
                       obtain ⟨hw3, hM3, hF3⟩ := hu2.out.grow (bs := [UInt8.ofNat (m % 128 + 128)]) (below_new _ _) ho (by simp) (bytes_snoc _ _ _ (by rw [UInt8.toNat_ofNat_of_lt' (show m % 128 + 128 < 256 by omega)]; omega)) hg hat
                       obtain ⟨g3, cap3, hv3, _⟩ := own_form ho (Nat.succ_pos _)
                       have c3 : w3.cell? ⟨g, 0, none⟩ = some u2 := by rw [((hu2.out.cell.alloc _).grown hg hu2.out.off).cell 0]; rfl
                       have f3 := (((hu2.out.cell.alloc _).grown hg hu2.out.off).frozen 0)
                       subst hv3
                       clear ho hg hat c2 f2)
          go_roundw
          case rel => exact ⟨m / 128, _, bs ++ [UInt8.ofNat (m % 128 + 128)], by go_num, by omega, by rw [← List.append_assoc, hcur.out]; exact hw3, by rw [← hbs.out, hne.out, List.append_assoc]; rfl, writes_then hM2 hF2 hM3, hF2.trans hF3 hsz⟩
          case measure => simp [intOf]; omega
    · obtain rfl : k = ns.length := by omega
      obtain ⟨u, hu, hM, hF⟩ := hr
      rw [List.take_length] at hu
      go_wp2
      go_end0
      exact ⟨rfl, u, hu, hM, hF⟩

end Go.Proofs.YtelglbblgkhcmaaGreat
