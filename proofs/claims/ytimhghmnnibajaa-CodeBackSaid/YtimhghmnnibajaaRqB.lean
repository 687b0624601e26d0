/-
  The walk of req.Open.
-/
import Derived.Test.YtimhghmnnibajaaRqA
import Derived.Laws.ResultCell
import Derived.Laws.Rows
import Derived.Laws.NewBlocks
namespace Go.Proofs.Ytimhghmnnibajaa
open Go.RowKit

theorem newReader_len (w : World) (A : Option Addr) (n c : Nat) (l : List UInt8) (hl : Bytes w w.heap.size A l) (hn : l.length = n) (hlen : n ≤ 100000000000) :
    Calls Try.prog 17 #[.slice A n c] w fun e w' => ∃ g, e = .returned (.pointer (some ⟨g, 0, none⟩)) ∧ w.heap.size ≤ g ∧ Rdr w' g (some l) ∧ Below w.heap.size w w' := by
  subst hn
  exact newReader_any w A c l hl hlen
/-- The end of a function whose results are a struct in memory and a slot. -/
theorem ret_cell2 {fn : Func} {p u : Tmp} {ty : TypeId} {R : Ending → World → Prop} {a : Act} {w : World} {g : Nat} {t : TypeId} {cs : Array Value} {fs : Array Field} (h : fn.results = #[.cell p ty, .tmp u]) (hd0 : a.defers = []) (hp : a.tmps.getD p undef = .pointer (some ⟨g, 0, none⟩))
    (hg : Holds w g t cs) (hu : Try.prog.underlying ty = some (.struct fs)) (hi : (Try.prog.info? ty).map (·.size) = some cs.size)
    (hR : R (.returned (.tuple #[.agg cs, a.tmps.getD u undef])) w) : bodyPost Try.prog fn R .ret a w := by
  refine bodyPost_ret_by (v := .tuple #[.agg cs, a.tmps.getD u undef]) ?_ hd0 hR
  rw [results_cell_tmp h, hp]
  simp [asAddr, run_loadVar_row w g t ty cs (0, 0) _ hg hu rfl hi, Result.andThen]
theorem Holds.store4 {w : World} {g : Nat} {t : TypeId} {a b c d : Value} (h : Holds w g t #[a, b, c, d]) (x y z u : Value) : Holds ((((w.setCell ⟨g, 0, none⟩ x).setCell ⟨g, 1, none⟩ y).setCell ⟨g, 2, none⟩ z).setCell ⟨g, 3, none⟩ u) g t #[x, y, z, u] := by
  have := (((h.store 0 x).store 1 y).store 2 z).store 3 u
  simpa using this
theorem below_store4 {B g : Nat} {w0 w : World} (h : Below B w0 w) (hg : B ≤ g) (x y z u : Value) : Below B w0 ((((w.setCell ⟨g, 0, none⟩ x).setCell ⟨g, 1, none⟩ y).setCell ⟨g, 2, none⟩ z).setCell ⟨g, 3, none⟩ u) :=
  (((h.setCell hg _).setCell hg _).setCell hg _).setCell hg _
theorem Try.sRq : (Try.prog.info? 78).map (·.size) = some 4 := by kernel_rfl
/-- What Open answers. -/
def retQ : Option Rq → Ending
  | some r => .returned (.tuple #[.agg #[.int .i64 r.kind, .string r.name, .string r.text, .int .i64 r.n], .int .i64 0])
  | none => .returned (.tuple #[.agg #[.int .i64 0, .string ⟨#[]⟩, .string ⟨#[]⟩, .int .i64 0], .int .i64 80])

set_option maxRecDepth 100000 in
set_option maxHeartbeats 4000000 in
theorem openQ_any (w0 : World) (A : Option Addr) (n c : Nat) (l : List UInt8) (hl : Bytes w0 w0.heap.size A l) (hn : l.length = n) (hlen : n ≤ 100000000000) :
    Calls Try.prog 44 #[.slice A n c] w0 fun e w' => e = retQ (openQ l) ∧ Below w0.heap.size w0 w' := by
  have hl := Lib.hid hl
  rename_i hl'
  have hn := Lib.hid hn
  rename_i hn'
  clear hl' hn'
  have hb1 := Lib.hid (below_new w0 (.cells #[.int .i64 0, .string ⟨#[]⟩, .string ⟨#[]⟩, .int .i64 0] 78))
  have hrb := Lib.hid (Holds.new w0 78 #[.int .i64 0, .string ⟨#[]⟩, .string ⟨#[]⟩, .int .i64 0])
  go_enter Try.func44, Try.ntmps44
  by_cases hbig : 8192 < n
  · have hno := Lib.hid (show openQ l = none by unfold openQ; rw [if_pos (by rw [hn.out]; exact hbig)])
    have q0 := (hrb.out.fact 0 rfl).2
    have q1 := (hrb.out.fact 1 rfl).2
    have q2 := (hrb.out.fact 2 rfl).2
    have q3 := (hrb.out.fact 3 rfl).2
    have z0 := hrb.out.frozen 0
    have z1 := hrb.out.frozen 1
    have z2 := hrb.out.frozen 2
    have z3 := hrb.out.frozen 3
    go_wp2_with fail
    refine ret_cell2 rfl rfl rfl hrb.out Try.underlying78 Try.sRq ⟨?_, hb1.out⟩
    rw [hno.out]
    rfl
  have hzb : Hid (Bytes (w0.alloc (.cells #[.int .i64 0, .string ⟨#[]⟩, .string ⟨#[]⟩, .int .i64 0] 78)) (w0.alloc (.cells #[.int .i64 0, .string ⟨#[]⟩, .string ⟨#[]⟩, .int .i64 0] 78)).heap.size A l) := Lib.hid (hl.out.up hb1.out)
  go_wp2_with fail
  generalize w0.alloc (.cells #[.int .i64 0, .string ⟨#[]⟩, .string ⟨#[]⟩, .int .i64 0] 78) = w1 at hb1 hrb hzb ⊢
  obtain ⟨rb, hrbe⟩ : ∃ x, w0.heap.size = x := ⟨_, rfl⟩
  rw [hrbe] at hrb ⊢
  refine (newReader_len w1 A n c l hzb.out hn.out hlen).mono ?_
  rintro e w2 ⟨gr, rfl, hgr, hR2, hb2⟩
  have hrb2 := Lib.hid (hrb.out.below hb2 hrb.out.lt)
  have hrg : rb < gr := Nat.lt_of_lt_of_le hrb.out.lt hgr
  have hB2 := Lib.hid (hb1.out.trans (hb2.mono hb1.out.size))
  have hR2 := Lib.hid hR2
  clear hb1 hrb hzb hgr hb2
  have hbn := below_new w2 (.cells #[.pointer (some ⟨gr, 0, none⟩), .bool false] 125)
  have hrb3 := Lib.hid (hrb2.out.below hbn hrb2.out.lt)
  have hgw : gr < w2.heap.size := by
    obtain ⟨_, _, _, h, _⟩ := hR2.out
    exact h.lt
  have hW3 : Hid (Wire (w2.alloc (.cells #[.pointer (some ⟨gr, 0, none⟩), .bool false] 125)) w2.heap.size gr (some l)) := Lib.hid ⟨false, some l, Holds.new _ _ _, hR2.out.below hbn, rfl, hgw⟩
  have hB3 := Lib.hid (hB2.out.trans (hbn.mono hB2.out.size))
  clear hbn hrb2 hR2 hB2
  go_wp2_with fail
  generalize w2.alloc (.cells #[.pointer (some ⟨gr, 0, none⟩), .bool false] 125) = w3 at hrb3 hW3 hB3 ⊢
  obtain ⟨gw, hgwe⟩ : ∃ x, w2.heap.size = x := ⟨_, rfl⟩
  rw [hgwe] at hW3 hgw ⊢
  have hwr : w0.heap.size ≤ rb := by omega
  clear hrbe hgwe
  -- the kind
  obtain ⟨wide, st, k1, k2, k3, _⟩ := hW3.out
  refine (rNum_any _ gr st k2).mono ?_
  intro e w4 ht
  obtain ⟨hW4a, hM4a, rfl, hv4a⟩ := Wire.took k1 hgw ht
  rw [← k3] at hW4a hv4a
  have hklt := valNum_lt st
  generalize valOf numR 0 st = kk at hv4a hklt ⊢
  have hW4 := Lib.hid hW4a
  have hv4 := Lib.hid hv4a
  have hrb4 := Lib.hid (hM4a.holds hrb3.out (by simp; omega))
  have hB4 := Lib.hid (hB3.out.trans (hM4a.below hB3.out.size (fun j hj => by simp at hj; omega)))
  have c4 : w4.cell? ⟨gw, 0, none⟩ = some (.pointer (some ⟨gr, 0, none⟩)) := by
    obtain ⟨_, _, h, _⟩ := hW4a
    rw [h.cell 0]
    rfl
  clear k1 k2 k3 ht hW4a hM4a hv4a hW3 hrb3 hB3
  go_wp2_with fail
  clear c4
  -- the name
  obtain ⟨wide, st, k1, k2, k3, _⟩ := hW4.out
  refine (rText_any _ gr st k2).mono ?_
  intro e w5 ht
  obtain ⟨hW5a, hM5a, rfl, hv5a⟩ := Wire.took k1 hgw ht
  rw [← k3] at hW5a hv5a
  generalize valOf textR [] st = na at hv5a ⊢
  have hv5 := Lib.hid hv5a
  have hbn := below_new w5 (.cells #[.int .i64 0, .string (strV na), .string ⟨#[]⟩, .int .i64 0] 78)
  have hrb5a := hM5a.holds hrb4.out (by simp; omega)
  have hB5a := hB4.out.trans (hM5a.below hB4.out.size (fun j hj => by simp at hj; omega))
  have hW5 := Lib.hid (hW5a.below hbn)
  have hrb5 := Lib.hid (hrb5a.below hbn hrb5a.lt)
  have hB5 := Lib.hid (hB5a.trans (hbn.mono hB5a.size))
  have hrv5 := Lib.hid (Holds.new w5 78 #[.int .i64 0, .string (strV na), .string ⟨#[]⟩, .int .i64 0])
  have hgv : gw < w5.heap.size := hW5a.lt
  have hrbv : rb < w5.heap.size := hrb5a.lt
  clear k1 k2 k3 ht hW5a hM5a hv5a hW4 hrb4 hB4 hbn hrb5a hB5a
  have c5 : (w5.alloc (.cells #[.int .i64 0, .string (strV na), .string ⟨#[]⟩, .int .i64 0] 78)).cell? ⟨gw, 0, none⟩ = some (.pointer (some ⟨gr, 0, none⟩)) := by
    obtain ⟨_, _, h, _⟩ := hW5.out
    rw [h.cell 0]
    rfl
  go_wp2_with fail
  clear c5
  generalize w5.alloc (.cells #[.int .i64 0, .string (strV na), .string ⟨#[]⟩, .int .i64 0] 78) = w5b at hW5 hrb5 hB5 hrv5 ⊢
  obtain ⟨rv, hrve⟩ : ∃ x, w5.heap.size = x := ⟨_, rfl⟩
  rw [hrve] at hrv5 hgv hrbv ⊢
  clear hrve
  -- the text
  obtain ⟨wide, st, k1, k2, k3, _⟩ := hW5.out
  refine (rText_any _ gr st k2).mono ?_
  intro e w6 ht
  obtain ⟨hW6a, hM6a, rfl, hv6a⟩ := Wire.took k1 hgw ht
  rw [← k3] at hW6a hv6a
  generalize valOf textR [] st = tx at hv6a ⊢
  have hv6 := Lib.hid hv6a
  have hrb6a := hM6a.holds hrb5.out (by simp; omega)
  have hrv6a := hM6a.holds hrv5.out (by simp; omega)
  have hB6a := hB5.out.trans (hM6a.below hB5.out.size (fun j hj => by simp at hj; omega))
  have hst := Writes.store w6 (M := [some rv]) (p := ⟨rv, 2, none⟩) (by simp) (.string (strV tx))
  have hW6 := Lib.hid (hW6a.keep hst (by simpa using hgv))
  have hrb6 := Lib.hid (hst.holds hrb6a (by simp; omega))
  have hrv6 : Hid (Holds (w6.setCell ⟨rv, 2, none⟩ (.string (strV tx))) rv 78 #[.int .i64 0, .string (strV na), .string (strV tx), .int .i64 0]) := Lib.hid (by have := hrv6a.store 2 (.string (strV tx)); simpa using this)
  have hB6 := Lib.hid (hB6a.trans (hst.below hB6a.size (fun j hj => by simp at hj; omega)))
  have c6 : w6.cell? ⟨rv, 2, none⟩ = some (.string ⟨#[]⟩) := by rw [hrv6a.cell 2]; rfl
  have f6 := hrv6a.frozen 2
  clear k1 k2 k3 ht hW6a hM6a hv6a hW5 hrb5 hrv5 hB5 hrb6a hrv6a hB6a hst
  go_wp2_with fail
  clear c6 f6
  generalize w6.setCell ⟨rv, 2, none⟩ (.string (strV tx)) = w7 at hW6 hrb6 hrv6 hB6 ⊢
  -- the number
  refine (number_any w7 gw gr _ hW6.out).mono ?_
  rintro e w8 ⟨z, rfl, hz1, hz2, hW8a, hM8a, hv8a⟩
  have hv8 := Lib.hid hv8a
  have hrb8a := hM8a.holds hrb6.out (by simp; omega)
  have hrv8a := hM8a.holds hrv6.out (by simp; omega)
  have hB8a := hB6.out.trans (hM8a.below hB6.out.size (fun j hj => by simp at hj; omega))
  have hst := Writes.store w8 (M := [some rv]) (p := ⟨rv, 3, none⟩) (by simp) (.int .i64 z)
  have hW8 := Lib.hid (hW8a.keep hst (by simpa using hgv))
  have hrb8 := Lib.hid (hst.holds hrb8a (by simp; omega))
  have hrv8 : Hid (Holds (w8.setCell ⟨rv, 3, none⟩ (.int .i64 z)) rv 78 #[.int .i64 0, .string (strV na), .string (strV tx), .int .i64 z]) := Lib.hid (by have := hrv8a.store 3 (.int .i64 z); simpa using this)
  have hB8 := Lib.hid (hB8a.trans (hst.below hB8a.size (fun j hj => by simp at hj; omega)))
  have c8 : w8.cell? ⟨rv, 3, none⟩ = some (.int .i64 0) := by rw [hrv8a.cell 3]; rfl
  have f8 := hrv8a.frozen 3
  clear hW8a hM8a hv8a hW6 hrb6 hrv6 hB6 hrb8a hrv8a hB8a hst
  go_wp2_with fail
  clear c8 f8
  generalize w8.setCell ⟨rv, 3, none⟩ (.int .i64 z) = w9 at hW8 hrb8 hrv8 hB8 ⊢
  refine (whole_any w9 gw gr _ hW8.out).mono ?_
  rintro e w10 ⟨rfl, rfl⟩
  have hq := openQ_eq l (by rw [hn.out]; exact hbig)
  by_cases hend : nextOf smallR (nextOf textR (nextOf textR (nextOf numR (some l)))) = some []
  · have hd : decide (nextOf smallR (nextOf textR (nextOf textR (nextOf numR (some l)))) = some []) = true := by simp [hend]
    rw [hd]
    clear hd
    have e3 : nextOf textR (nextOf textR (nextOf numR (some l))) ≠ none := fun h => by rw [h] at hend; cases hend
    have e2 : nextOf textR (nextOf numR (some l)) ≠ none := fun h => by rw [h] at e3; exact e3 rfl
    have e1 : nextOf numR (some l) ≠ none := fun h => by rw [h] at e2; exact e2 rfl
    rw [← hv4.out e1, ← hv5.out e2, ← hv6.out e3, ← hv8.out (by rw [hend]; simp)] at hq
    have hq := Lib.hid hq
    clear hv4 hv5 hv6 hv8 e1 e2 e3
    have hend1 := Lib.hid hend
    clear hend
    by_cases hk1 : kk < 1
    · have hno : Hid (openQ l = none) := Lib.hid (by rw [hq.out, if_neg (by omega)])
      clear hq
      have q0 := (hrb8.out.fact 0 rfl).2
      have q1 := (hrb8.out.fact 1 rfl).2
      have q2 := (hrb8.out.fact 2 rfl).2
      have q3 := (hrb8.out.fact 3 rfl).2
      have z0 := hrb8.out.frozen 0
      have z1 := hrb8.out.frozen 1
      have z2 := hrb8.out.frozen 2
      have z3 := hrb8.out.frozen 3
      go_wp2_with fail
      refine ret_cell2 rfl rfl rfl (hrb8.out.store4 _ _ _ _) Try.underlying78 Try.sRq ⟨?_, below_store4 hB8.out hwr _ _ _ _⟩
      first | (rw [hno.out]; rfl) | rfl | (simp [retQ]; done)
    · by_cases hk7 : 7 < kk
      · have hno : Hid (openQ l = none) := Lib.hid (by rw [hq.out, if_neg (by omega)])
        clear hq
        have q0 := (hrb8.out.fact 0 rfl).2
        have q1 := (hrb8.out.fact 1 rfl).2
        have q2 := (hrb8.out.fact 2 rfl).2
        have q3 := (hrb8.out.fact 3 rfl).2
        have z0 := hrb8.out.frozen 0
        have z1 := hrb8.out.frozen 1
        have z2 := hrb8.out.frozen 2
        have z3 := hrb8.out.frozen 3
        go_wp2_with fail
        refine ret_cell2 rfl rfl rfl (hrb8.out.store4 _ _ _ _) Try.underlying78 Try.sRq ⟨?_, below_store4 hB8.out hwr _ _ _ _⟩
        rw [hno.out]
        rfl
      · have hyes : Hid (openQ l = some ⟨(kk : Int), strV na, strV tx, z⟩) := Lib.hid (by rw [hq.out, if_pos ⟨hend1.out, by omega, by omega⟩])
        clear hq
        have hvb : rb ≠ rv := by omega
        have q0 := (hrb8.out.fact 0 rfl).2
        have q1 := (hrb8.out.fact 1 rfl).2
        have q2 := (hrb8.out.fact 2 rfl).2
        have q3 := (hrb8.out.fact 3 rfl).2
        have z0 := hrb8.out.frozen 0
        have z1 := hrb8.out.frozen 1
        have z2 := hrb8.out.frozen 2
        have z3 := hrb8.out.frozen 3
        have p0 := (hrv8.out.fact 0 rfl).2
        have p1 := (hrv8.out.fact 1 rfl).2
        have p2 := (hrv8.out.fact 2 rfl).2
        have p3 := (hrv8.out.fact 3 rfl).2
        have y0 := hrv8.out.frozen 0
        have hrb9 := Lib.hid (hrb8.out.apart (p := ⟨rv, 0, none⟩) hvb (.int .i64 (kk : Int)))
        have hB9 := Lib.hid (hB8.out.setCell (p := ⟨rv, 0, none⟩) (show w0.heap.size ≤ rv by omega) (.int .i64 (kk : Int)))
        go_wp2_with fail
        refine ret_cell2 rfl rfl rfl (hrb9.out.store4 _ _ _ _) Try.underlying78 Try.sRq ⟨?_, below_store4 hB9.out hwr _ _ _ _⟩
        rw [hyes.out]
        rfl
  · have hno : Hid (openQ l = none) := Lib.hid (by rw [hq, if_neg (fun h => hend h.1)])
    have hd : decide (nextOf smallR (nextOf textR (nextOf textR (nextOf numR (some l)))) = some []) = false := by simp [hend]
    rw [hd]
    clear hd hq hv4 hv5 hv6 hv8
    have q0 := (hrb8.out.fact 0 rfl).2
    have q1 := (hrb8.out.fact 1 rfl).2
    have q2 := (hrb8.out.fact 2 rfl).2
    have q3 := (hrb8.out.fact 3 rfl).2
    have z0 := hrb8.out.frozen 0
    have z1 := hrb8.out.frozen 1
    have z2 := hrb8.out.frozen 2
    have z3 := hrb8.out.frozen 3
    clear hend
    go_wp2_with fail
    refine ret_cell2 rfl rfl rfl (hrb8.out.store4 _ _ _ _) Try.underlying78 Try.sRq ⟨?_, below_store4 hB8.out hwr _ _ _ _⟩
    rw [hno.out]
    rfl
end Go.Proofs.Ytimhghmnnibajaa
