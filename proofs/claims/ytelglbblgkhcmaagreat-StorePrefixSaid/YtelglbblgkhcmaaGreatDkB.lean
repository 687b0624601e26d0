/-
  The walks of slices.Clone, and of the disk's methods that only read.
-/
import Derived.Test.YtelglbblgkhcmaaGreatDkA
import Derived.OwnWalk
import Derived.Laws.CopyOwn
import Derived.Lib.SliceRun
import Derived.Deep.OwnRows
namespace Go.Proofs.YtelglbblgkhcmaaGreat
open Go.RowKit Go.Deep

set_option maxRecDepth 100000 in
theorem sectors_any (w : World) (q : DR) (h : DiskP q w) : Calls Tryz.prog 41 #[.pointer (some ⟨q.g, 0, none⟩)] w fun e w' => e = .returned (.int .i64 q.n) ∧ w' = w := by
  have f0 := h.f0
  go_enter Tryz.func41, Tryz.ntmps41
  go_wp2_with fail
  go_ret
  exact ⟨rfl, rfl⟩
set_option maxRecDepth 100000 in
theorem size_any (w : World) (q : DR) (h : DiskP q w) : Calls Tryz.prog 42 #[.pointer (some ⟨q.g, 0, none⟩)] w fun e w' => e = .returned (.int .i64 q.size) ∧ w' = w := by
  have f0 := h.f1
  go_enter Tryz.func42, Tryz.ntmps42
  go_wp2_with fail
  go_ret
  exact ⟨rfl, rfl⟩
set_option maxRecDepth 100000 in
theorem clone_any (w : World) (A : Option Addr) (n c : Nat) (l : List UInt8) (hn : l.length = n) (hm : n ≤ 100000000) (hb : RowAt w A (l.map byteV)) :
    Calls Tryz.prog 76 #[.slice A n c] w fun e w' => (∃ v, e = .returned v ∧ NewB w w' l v) ∧ Below w.heap.size w w' := by
  obtain ⟨iS, hiS, hzS0, hzS1, hzS2⟩ := info_parts Tryz.infoU8
  have hn' := Lib.hid hn
  have hb' := Lib.hid hb
  clear hn hb
  have hq := fun w => Lib.run_eql_slice_nil (P := Tryz.prog) w 37 5 A n c 0 0 Tryz.underlying37
  rcases A with _ | a
  · have hl : Hid (l = []) := Lib.hid (by
      rcases l with _ | ⟨y, r⟩
      · rfl
      · obtain ⟨_, _, e, _⟩ := hb'.out (by simp)
        cases e)
    go_enter Tryz.func76, Tryz.ntmps76
    go_wp2_with fail
    go_ret
    exact ⟨⟨_, rfl, by rw [hl.out]; exact World.ownsRow_nil _ _ _ _⟩, Below.refl _ _⟩
  · have ho := Lib.hid (own_empty w w.heap.size (Nat.le_refl _))
    have hr := Lib.hid ((hb'.out.row.below (below_new w (.cells #[] 5))).more (below_new w (.cells #[] 5)).size)
    have hbn := Lib.hid (below_new w (.cells #[] 5))
    have hbs := Lib.hid (below_new w (.cells #[] 5)).size
    go_enter Tryz.func76, Tryz.ntmps76
    go_wp2_with
      (at_builtin
       go_loud (refine wpList_append_row _ rfl (.tmp 5) (.tmp 6) 37 rfl w.heap.size 5 iS (.int .u8 0) 1 Tryz.underlying37 hiS hzS0 hzS1 hzS2 rfl (.slice (some ⟨w.heap.size, 0, none⟩) 0 0) 0 [] rfl ho.out _ (some a) n c (l.map byteV) rfl (by rw [List.length_map]; exact hn'.out) hr.out byte_one (by unfold maxLen; omega) (by omega) hbs.out ?_)
       intro v1 w1 ho1 hg1 _
       have hv1 := Lib.hid ho1
       have hB1 : Hid (Below w.heap.size w w1) := Lib.hid (hbn.out.trans ((Writes.of_grown hg1 (M := [some w.heap.size]) (by simp [Value.ownBlock])).below hbs.out (fun j hj => by simp at hj; omega)))
       clear ho1 hg1)
    go_ret
    exact ⟨⟨v1, rfl, by have := hv1.out; rw [Nat.zero_add, ← hn'.out, List.nil_append] at this; exact this⟩, hB1.out⟩

/-- A guard for an arm: the next operation writes slot n. -/
theorem at_slot {P : Program} {ops : Array Oper} {Q : Exit → Act → World → Prop} {rest : List Oper} {a : Act} {w : World} (n : Tmp) {op : Op} {ty : TypeId} {pos : String} {af : Array Edge} {g : Option (Nat × Bool)} (h : wpList P ops Q (⟨some n, op, ty, pos, af, g⟩ :: rest) a w) : wpList P ops Q (⟨some n, op, ty, pos, af, g⟩ :: rest) a w := h
theorem made_bytes (n : Nat) : madeCells #[.int .u8 0] n = ((List.replicate n (0 : UInt8)).map byteV).toArray := by
  apply Array.ext
  · simp [madeCells]
  · intro i h1 h2
    simp [madeCells, byteV, Nat.mod_one]
/-- A block of bytes of the call's own, read as an owned row. -/
theorem own_block {w : World} {B g : Nat} {l : List UInt8} (h : Holds w g 5 (l.map byteV).toArray) (hB : B ≤ g) (hm : l.length ≤ 100000000) : w.ownsRow B 5 1 (.slice (some ⟨g, 0, none⟩) l.length l.length) l.length (l.map byteV) :=
  ⟨by simp, .inr ⟨g, l.length, (l.map byteV).toArray, rfl, hB, h, Nat.le_refl _, by unfold maxLen; omega, by simp, by rw [List.take_of_length_le (by simp)]⟩⟩
theorem splice_full {α : Type} (a b : List α) (h : a.length = b.length) : splice a 0 b = b := by
  unfold splice
  rw [List.take_zero, List.nil_append, List.drop_eq_nil_of_le (by omega), List.append_nil]
theorem splice_none {α : Type} (a : List α) : splice a 0 [] = a := by simp [splice]

set_option maxRecDepth 100000 in
set_option maxHeartbeats 1000000 in
theorem safe_any (w : World) (q : DR) (h : DiskP q w) (i : Int) (hi : -9223372036854775808 ≤ i ∧ i ≤ 9223372036854775807) :
    Calls Tryz.prog 39 #[.pointer (some ⟨q.g, 0, none⟩), .int .i64 i] w fun e w' => (∃ v, e = .returned v ∧ NewB w w' (q.safe i) v) ∧ Below w.heap.size w w' := by
  have hs2 := h.s2
  have hs1 := h.s1
  have hmk := run_make_row' (P := Tryz.prog) 37 5 (.int .u8 0) 1 Tryz.underlying37 Tryz.infoU8 rfl .i64 .i64 q.size (by omega) (by omega)
  rw [made_bytes] at hmk
  have hz0 := Holds.new w 5 ((List.replicate q.size (0 : UInt8)).map byteV).toArray
  have hb0 := below_new w (.cells ((List.replicate q.size (0 : UInt8)).map byteV).toArray 5)
  obtain ⟨zs, hzs⟩ : ∃ zs, zs = (List.replicate q.size (0 : UInt8)).map byteV := ⟨_, rfl⟩
  rw [← hzs] at hmk hz0 hb0
  have hzl : Hid (zs.length = q.size) := Lib.hid (by rw [hzs]; simp)
  have hzs' := Lib.hid hzs
  have hD := h.below hb0
  have f0 := h.f1
  have f2 := hD.f2
  have lk := (hD.md.look hi).2
  have hz := Lib.hid hz0
  have hb := Lib.hid hb0
  clear hzs hz0 hb0
  cases e : q.dur i with
  | none =>
    have hsf : Hid (q.safe i = List.replicate q.size 0) := Lib.hid (by unfold DR.safe; rw [e])
    rw [e] at lk
    simp only [Option.map_none, Option.getD_none] at lk
    clear e
    go_enter Tryz.func39, Tryz.ntmps39
    go_wp2_with
      (with_reducible refine at_slot 18 ?_
       go_loud (refine wpList_copy_splice rfl (.tmp 11) (.tmp 17) 37 37 rfl 5 Tryz.underlying37 Tryz.sizeU8 _ _ q.size q.size 0 0 rfl rfl w.heap.size 0 zs 5 hz.out [] (by simp) (fun h => absurd h (by simp)) (by simp) (by simp) w.heap.size w hb.out (Nat.le_refl _) ?_)
       intro w2 hg2 hb2
       have hb3 := Lib.hid hb2
       clear hb2)
    go_ret
    refine ⟨⟨.slice (some ⟨w.heap.size, 0, none⟩) q.size q.size, rfl, ?_⟩, hb3.out⟩
    have hg3 := hg2.out
    rw [splice_none, hzs'.out, ← hsf.out] at hg3
    have := own_block (B := w.heap.size) hg3 (Nat.le_refl _) (by rw [h.safe_len]; omega)
    rw [h.safe_len] at this
    unfold NewB
    rw [h.safe_len]
    exact this
  | some p =>
    have hsf : Hid (q.safe i = p.l) := Lib.hid (by unfold DR.safe; rw [e])
    obtain ⟨hp1, hp2, hp3⟩ := hD.pay i p (.inl e)
    rw [e] at lk
    simp only [Option.map_some, Option.getD_some, Pay.val] at lk
    have hp := Lib.hid hp1
    have hpl := Lib.hid hp2
    rw [hp2] at lk
    clear e hp1 hp2 hp3
    have hpos : Hid (0 < (p.l.map byteV).length → (some ⟨w.heap.size, 0, none⟩ : Option Addr) = some ⟨w.heap.size, 0, none⟩ ∧ ∃ ad, p.A = some ad ∧ ∀ j v, (p.l.map byteV)[j]? = some v → (w.alloc (.cells zs.toArray 5)).cell? (ad.add j) = some v) := Lib.hid (fun hn => by
      obtain ⟨b, off, e, hc⟩ := hp.out (by intro h; rw [h] at hn; simp at hn)
      refine ⟨rfl, _, e, fun j v hv => ?_⟩
      have hadd : (⟨b, off, none⟩ : Addr).add j = ⟨b, off + j, none⟩ := by unfold Addr.add; split <;> simp_all
      rw [hadd]
      exact hc j v hv)
    go_enter Tryz.func39, Tryz.ntmps39
    go_wp2_with
      (with_reducible refine at_slot 18 ?_
       go_loud (refine wpList_copy_splice rfl (.tmp 11) (.tmp 17) 37 37 rfl 5 Tryz.underlying37 Tryz.sizeU8 _ _ q.size q.size q.size _ rfl rfl w.heap.size 0 zs 5 hz.out (p.l.map byteV) (by rw [List.length_map, hpl.out]; simp) hpos.out (by rw [List.length_map, hpl.out, hzl.out]; omega) byte_one w.heap.size w hb.out (Nat.le_refl _) ?_)
       intro w2 hg2 hb2
       have hb3 := Lib.hid hb2
       clear hb2)
    go_ret
    refine ⟨⟨.slice (some ⟨w.heap.size, 0, none⟩) q.size q.size, rfl, ?_⟩, hb3.out⟩
    have hg3 := hg2.out
    rw [splice_full _ _ (by rw [hzl.out, List.length_map, hpl.out]), ← hsf.out] at hg3
    have := own_block (B := w.heap.size) hg3 (Nat.le_refl _) (by rw [h.safe_len]; omega)
    rw [h.safe_len] at this
    unfold NewB
    rw [h.safe_len]
    exact this

set_option maxRecDepth 100000 in
set_option maxHeartbeats 1000000 in
theorem last_any (w : World) (q : DR) (h : DiskP q w) (i : Int) (hi : -9223372036854775808 ≤ i ∧ i ≤ 9223372036854775807) :
    Calls Tryz.prog 98 #[.pointer (some ⟨q.g, 0, none⟩), .int .i64 i] w fun e w' => (∃ v, e = .returned v ∧ NewB w w' (q.last i) v) ∧ Below w.heap.size w w' := by
  have hs2 := h.s2
  have f3 := h.f3
  have lk := (h.mw.look hi).1
  cases e : q.wr i with
  | none =>
    have hsf : Hid (q.last i = q.safe i) := Lib.hid (by unfold DR.last; rw [e])
    rw [e] at lk
    simp only [Option.map_none, Option.getD_none, Option.isSome_none] at lk
    clear e
    go_enter Tryz.func98, Tryz.ntmps98
    go_wp2_with fail
    refine (safe_any w q h i hi).mono ?_
    rintro e w2 ⟨⟨v, rfl, hv⟩, hb⟩
    have hv' := Lib.hid hv
    have hb' := Lib.hid hb
    clear hv hb
    go_wp2_with fail
    go_ret
    exact ⟨⟨v, rfl, by rw [hsf.out]; exact hv'.out⟩, hb'.out⟩
  | some p =>
    have hsf : Hid (q.last i = p.l) := Lib.hid (by unfold DR.last; rw [e])
    obtain ⟨hp1, hp2, hp3⟩ := h.pay i p (.inr e)
    have hl : p.l.length ≤ 100000000 := by omega
    rw [e] at lk
    simp only [Option.map_some, Option.getD_some, Option.isSome_some, Pay.val] at lk
    have hp := Lib.hid hp1
    clear e hp1 hp2
    go_enter Tryz.func98, Tryz.ntmps98
    go_wp2_with fail
    refine (clone_any w p.A p.l.length p.c p.l rfl hl hp.out).mono ?_
    rintro e w2 ⟨⟨v, rfl, hv⟩, hb⟩
    have hv' := Lib.hid hv
    have hb' := Lib.hid hb
    clear hv hb
    go_wp2_with fail
    go_ret
    exact ⟨⟨v, rfl, by rw [hsf.out]; exact hv'.out⟩, hb'.out⟩


/-- A sector is read: its bytes, new; or none, and the error's number. -/
def ReadE (q : DR) (i : Int) (w : World) (e : Ending) (w' : World) : Prop :=
  (if q.dead = true then e = .returned (.tuple #[.slice none 0 0, .int .i64 32])
   else if i < 0 ∨ (q.n : Int) ≤ i then e = .returned (.tuple #[.slice none 0 0, .int .i64 30])
   else ∃ v, e = .returned (.tuple #[v, .int .i64 0]) ∧ NewB w w' (q.last i) v) ∧ Below w.heap.size w w'
set_option maxRecDepth 100000 in
set_option maxHeartbeats 1000000 in
theorem read_any (w : World) (q : DR) (h : DiskP q w) (i : Int) (hi : -9223372036854775808 ≤ i ∧ i ≤ 9223372036854775807) :
    Calls Tryz.prog 69 #[.pointer (some ⟨q.g, 0, none⟩), .int .i64 i] w (ReadE q i w) := by
  have f4 := h.f4
  have f0 := h.f0
  have n1 := h.n1
  have n2 := h.n2
  cases hd : q.dead with
  | true =>
    rw [hd] at f4
    have hd' := Lib.hid hd
    clear hd
    go_enter Tryz.func69, Tryz.ntmps69
    go_wp2_with fail
    go_ret2
    exact ⟨by rw [if_pos hd'.out]; rfl, Below.refl _ _⟩
  | false =>
    rw [hd] at f4
    have hd' := Lib.hid hd
    clear hd
    by_cases h0 : i < 0
    · go_enter Tryz.func69, Tryz.ntmps69
      go_wp2_with fail
      go_ret2
      exact ⟨by rw [if_neg (by rw [hd'.out]; simp), if_pos (.inl h0)]; rfl, Below.refl _ _⟩
    by_cases h1 : (q.n : Int) ≤ i
    · go_enter Tryz.func69, Tryz.ntmps69
      go_wp2_with fail
      go_ret2
      exact ⟨by rw [if_neg (by rw [hd'.out]; simp), if_pos (.inr h1)]; rfl, Below.refl _ _⟩
    go_enter Tryz.func69, Tryz.ntmps69
    go_wp2_with fail
    refine (last_any w q h i hi).mono ?_
    rintro e w2 ⟨⟨v, rfl, hv⟩, hb⟩
    have hv' := Lib.hid hv
    have hb' := Lib.hid hb
    clear hv hb
    go_wp2_with fail
    go_ret2
    refine ⟨?_, hb'.out⟩
    rw [if_neg (by rw [hd'.out]; simp), if_neg (by omega)]
    exact ⟨v, rfl, hv'.out⟩
end Go.Proofs.YtelglbblgkhcmaaGreat
