/-
  Maps from numbers to slices of bytes: what a block holds, as a function; looked up, stored into, ranged over, cleared, copied. No function of the program in sight.
-/
import Derived.Test.YtelglbblgkhcmaaGreatProg
import Derived.Test.YtelglbblgkhcmaaGreatSep
import Derived.Maps.OwnSet
import Derived.Maps.RangeWalk
namespace Go.Proofs.YtelglbblgkhcmaaGreat
open Go.RowKit Go.Maps Go.ChangeMaps Go.MapKept

/-- An element as it is. -/
def heldR (v : Value) : Option (DataW Value × List MemPlace) := some (.held v, [])
theorem Tryz.intKeyed : Keyed Tryz.prog 3 := int_keyed Tryz.underlying3
theorem Tryz.zeroBytes (w : World) : (zeroValue 37).run Tryz.prog w = .ok (.slice none 0 0) w := by kernel_rfl

/-- D holds just what f says. -/
def Says (D : DataW Value) (f : Int → Option Value) : Prop := ∀ k : Int, (match f k with
  | none => Maps.has D (.int .i64 k) = false
  | some v => Maps.has D (.int .i64 k) = true ∧ ∀ z, D.atKey (.int .i64 k) z = .held v)
/-- Block m is a map that holds what f says; its keys lie from 0 to 4095. -/
def IMap (w : World) (m : Nat) (f : Int → Option Value) : Prop :=
  (∃ n D, n ≤ 4096 ∧ w.ownsMap Tryz.prog 3 heldR m n D ∧ Says D f) ∧ ∀ k, f k ≠ none → 0 ≤ k ∧ k < 4096

theorem nodup_bound : ∀ (N : Nat) (l : List Nat), l.Nodup → (∀ x ∈ l, x < N) → l.length ≤ N
  | 0, [], _, _ => Nat.le_refl _
  | 0, x :: _, _, h => absurd (h x (List.mem_cons_self ..)) (by omega)
  | N + 1, l, hn, h => by
    have h1 := nodup_bound N (l.filter (· ≠ N)) (hn.filter _) (fun x hx => by
      obtain ⟨h1, h2⟩ := List.mem_filter.1 hx
      have := h x h1
      simp at h2
      omega)
    have key : ∀ l : List Nat, l.Nodup → l.length ≤ (l.filter (· ≠ N)).length + 1 := by
      intro l
      induction l with
      | nil => simp
      | cons y r ih =>
        intro hn
        obtain ⟨hy, hr⟩ := List.nodup_cons.1 hn
        have := ih hr
        by_cases e : y = N
        · subst e
          have h2 : (r.filter (· ≠ y)) = r := List.filter_eq_self.2 (fun z hz => by simp; rintro rfl; exact hy hz)
          rw [List.filter_cons, if_neg (by simp), h2, List.length_cons]
          exact Nat.le_refl _
        · simp [e]
          simpa using this
    have := key l hn
    omega

theorem IMap.loc {w w' : World} {m : Nat} {f : Int → Option Value} (h : IMap w m f) (hb : w'.heap[m]? = w.heap[m]?) : IMap w' m f := by
  obtain ⟨⟨n, D, hn, ⟨es, clock, h1, h2⟩, hs⟩, hk⟩ := h
  exact ⟨⟨n, D, hn, ⟨es, clock, hb.trans h1, h2⟩, hs⟩, hk⟩
theorem IMap.lt {w : World} {m : Nat} {f : Int → Option Value} (h : IMap w m f) : m < w.heap.size := by
  obtain ⟨⟨n, D, hn, h1, _⟩, _⟩ := h
  exact h1.lt
theorem Says.empty : Says (.map []) (fun _ => none) := fun _ => rfl
theorem IMap.made (w : World) : IMap (w.alloc (.map #[] 0)) w.heap.size (fun _ => none) :=
  ⟨⟨0, .map [], by omega, World.ownsMap_made w _ _ _, Says.empty⟩, fun k h => absurd rfl h⟩
/-- The bound on the entries follows from the keys. -/
theorem ownsMap_tight {w : World} {m n : Nat} {D : DataW Value} {f : Int → Option Value} (h : w.ownsMap Tryz.prog 3 heldR m n D) (hs : Says D f) (hk : ∀ k, f k ≠ none → 0 ≤ k ∧ k < 4096) : w.ownsMap Tryz.prog 3 heldR m (Maps.size D) D ∧ Maps.size D ≤ 4096 := by
  refine ⟨?_, ?_⟩
  · obtain ⟨es, clock, hb, F, _, hD⟩ := h
    refine ⟨es, clock, hb, F, ?_, hD⟩
    subst hD
    simp [Maps.size, length_sorted]
  · obtain ⟨es, rfl, hp, hkey⟩ := h.entries Tryz.intKeyed
    obtain ⟨es0, clock, hb, F, _, hD⟩ := h
    have hint : ∀ p ∈ es, ∃ k : Int, p.1 = .int .i64 k := by
      intro p hpm
      injection hD with hD
      rw [hD] at hpm
      obtain ⟨x, hx, rfl⟩ := List.mem_map.1 (mem_sorted.1 hpm)
      obtain ⟨y, hy⟩ := F.reads x hx
      rw [Go.WideElems.rg_of hy]
      obtain ⟨k, _, e, _⟩ := Maps.keyOf_int_inv Tryz.underlying3 (Go.WideElems.rd_key hy)
      exact ⟨k, e⟩
    have hrange : ∀ p ∈ es, ∃ k : Nat, p.1 = .int .i64 (k : Int) ∧ k < 4096 := by
      intro p hpm
      obtain ⟨k, e⟩ := hint p hpm
      have hh : Maps.has (.map es) (.int .i64 k) = true := List.any_eq_true.2 ⟨p, hpm, by rw [e]; exact WideAt.sameKey_self (by rw [← e]; exact hkey p hpm)⟩
      have := hs k
      cases hf : f k with
      | none => rw [hf] at this; simp only at this; rw [this] at hh; cases hh
      | some v =>
        have h2 := hk k (by rw [hf]; simp)
        exact ⟨k.toNat, by rw [e]; congr 1; omega, by omega⟩
    have hl : (es.map fun p => match p.1 with | .int _ k => k.toNat | _ => 0).length ≤ 4096 := by
      refine nodup_bound 4096 _ ?_ ?_
      · rw [List.Nodup, List.pairwise_map]
        refine hp.imp_of_mem fun {a b} ha hb hne => ?_
        obtain ⟨k, e1, _⟩ := hrange a ha
        obtain ⟨k', e2, _⟩ := hrange b hb
        rw [e1, e2]
        simp only [Int.toNat_natCast]
        rintro rfl
        exact hne (e1.trans e2.symm)
      · intro x hx
        obtain ⟨p, hpm, rfl⟩ := List.mem_map.1 hx
        obtain ⟨k, e1, hk⟩ := hrange p hpm
        rw [e1]
        simpa using hk
    simpa [Maps.size] using hl
section
variable {w : World} {m : Nat} {f : Int → Option Value}
theorem Says.put {D : DataW Value} (h : Says D f) (hD : IsMap D) (k : Int) (v : Value) : Says (D.put (.int .i64 k) (.held v)) (fun j => if j = k then some v else f j) := fun j => by
  by_cases e : j = k
  · subst e
    simp only [if_true]
    exact ⟨has_put_same hD (by trivial) _, fun z => atKey_put_same hD (by trivial) _ _⟩
  · simp only [if_neg e]
    have hne : (Lit.int .i64 j) ≠ .int .i64 k := fun h => e (by injection h)
    have := h j
    cases hf : f j with
    | none => rw [hf] at this; simp only at this ⊢; rw [has_put_other hne]; exact this
    | some u => rw [hf] at this; simp only at this ⊢; rw [has_put_other hne]; exact ⟨this.1, fun z => by rw [atKey_put_other hne]; exact this.2 z⟩
/-- 'm[k] = v'. -/
theorem IMap.store (h : IMap w m f) {k : Int} (hk : 0 ≤ k ∧ k < 4096) (v : Value) :
    ∃ w', (Instr.mapUpdate 67 (.map (some m)) (.int .i64 k) v).run Tryz.prog w = .ok () w' ∧ IMap w' m (fun j => if j = k then some v else f j) ∧ w.grownBy w' (some m) ∧ w'.heap.size = w.heap.size := by
  obtain ⟨⟨n, D, hn, ho, hs⟩, hd⟩ := h
  have hwf : (Lit.int .i64 k).wf = true := by simp [Lit.wf, IntKind.min, IntKind.max, IntKind.signed, IntKind.bits]; omega
  obtain ⟨w', hrun, ho', ht⟩ := ho.store (t := 67) Tryz.intKeyed Tryz.underlying67 (by unfold maxLen; omega) (keyOf_int_mk Tryz.underlying3 hwf) (val := v) (d := .held v) (ps := []) rfl
  have hs' := hs.put ho.isMap k v
  have hd' : ∀ j, (if j = k then some v else f j) ≠ none → 0 ≤ j ∧ j < 4096 := fun j hj => by
    by_cases e : j = k
    · subst e; exact hk
    · rw [if_neg e] at hj; exact hd j hj
  obtain ⟨t1, t2⟩ := ownsMap_tight ho' hs' hd'
  refine ⟨w', hrun, ⟨⟨_, _, t2, t1, hs'⟩, hd'⟩, ht.grown, ?_⟩
  obtain ⟨_, _, _, _, _, rfl⟩ := ht
  simp [setBlock]
set_option maxRecDepth 100000 in
/-- 'v, ok := m[k]'. -/
theorem IMap.look (h : IMap w m f) {k : Int} (hwf : -9223372036854775808 ≤ k ∧ k ≤ 9223372036854775807) :
    (Instr.lookup 67 (.map (some m)) (.int .i64 k) true).run Tryz.prog w = .ok (.tuple #[(f k).getD (.slice none 0 0), .bool (f k).isSome]) w ∧
    (Instr.lookup 67 (.map (some m)) (.int .i64 k) false).run Tryz.prog w = .ok ((f k).getD (.slice none 0 0)) w := by
  obtain ⟨⟨n, D, hn, ho, hs⟩, _⟩ := h
  have hkey := keyOf_int_mk (P := Tryz.prog) Tryz.underlying3 (a := k) (q := .i64) (by simp [Lit.wf, IntKind.min, IntKind.max, IntKind.signed, IntKind.bits]; omega)
  have h1 := ho.look_ok (t := 67) Tryz.intKeyed Tryz.underlying67 (Tryz.zeroBytes w) (zd := .held (.slice none 0 0)) (zp := []) rfl hkey
  have h2 := ho.lookup (t := 67) Tryz.intKeyed Tryz.underlying67 (Tryz.zeroBytes w) (zd := .held (.slice none 0 0)) (zp := []) rfl hkey
  obtain ⟨v, ps, r1, e1⟩ := h1
  obtain ⟨v', ps', r2, e2⟩ := h2
  have := hs k
  simp only [heldR, Option.some.injEq, Prod.mk.injEq] at e1 e2
  cases hf : f k with
  | none =>
    rw [hf] at this
    simp only at this
    rw [atKey_of_not_has this] at e1 e2
    obtain ⟨e1, _⟩ := e1
    obtain ⟨e2, _⟩ := e2
    injection e1 with e1
    injection e2 with e2
    simp only [Option.getD_none, Option.isSome_none]
    exact ⟨by rw [r1, this, e1], by rw [r2, e2]⟩
  | some u =>
    rw [hf] at this
    simp only at this
    rw [this.2] at e1 e2
    obtain ⟨e1, _⟩ := e1
    obtain ⟨e2, _⟩ := e2
    injection e1 with e1
    injection e2 with e2
    simp only [Option.getD_some, Option.isSome_some]
    exact ⟨by rw [r1, this.1, e1], by rw [r2, e2]⟩
/-- 'clear(m)'. -/
theorem IMap.clear (h : IMap w m f) : ∃ w', (∀ ty, (Builtin.clear_ #[67] ty #[.map (some m)]).run Tryz.prog w = .ok (.tuple #[]) w') ∧ IMap w' m (fun _ => none) ∧ w.grownBy w' (some m) ∧ w'.heap.size = w.heap.size := by
  obtain ⟨⟨n, D, hn, ⟨es, clock, hb, F, _⟩, hs⟩, hd⟩ := h
  refine ⟨setBlock w m (.map #[] clock), ?_, ⟨⟨0, .map [], by omega, ⟨#[], clock, heap_setBlock_same hb _, ⟨by simp, stamped_empty _, by simp⟩, by simp, rfl⟩, Says.empty⟩, fun k hk => absurd rfl hk⟩, ⟨rfl, rfl, rfl, by simp [setBlock], fun i _ hi => heap_setBlock_other hb _ (fun e => hi (by rw [e]))⟩, by simp [setBlock]⟩
  · intro ty
    simp [Builtin.clear_, run_underlying Tryz.underlying67, Go.MapKept.run_getObj_map hb, Go.MapKept.run_setObj_map _ hb, Result.andThen, setBlock]
end
end Go.Proofs.YtelglbblgkhcmaaGreat
