/-
  The source's summary: where its walk stands; what each step does to that. No walk yet.
-/
import Derived.Test.YtimhghmnnibajaaSrA
import Derived.Test.YtimhghmnnibajaaRqI
namespace Go.Proofs.Ytimhghmnnibajaa
open Go.RowKit

theorem Try.infoNm : (Try.prog.info? 118).map (fun i => (i.zero, i.size, i.bytes)) = some (some (.agg #[.string ⟨#[]⟩, .bool false, .int .i64 0, .int .i64 0]), 4, 40) := by kernel_rfl
theorem Try.sSm : (Try.prog.info? 61).map (·.size) = some 6 := by kernel_rfl
theorem own_ne_new {w : World} {B : Nat} {e : TypeId} {size : Nat} {v : Value} {n : Nat} {xs : List Value} (h : w.ownsRow B e size v n xs) : v.ownBlock ≠ some w.heap.size := fun e => own_lt h (Nat.le_refl _) e.symm

structure SmAt (w0 w : World) (g ra B : Nat) (v1 : Value) (al : List Al) (en rs : Bool) (lo hi : Int) (v2 : Value) (md : List Nm) : Prop where
  zero : Holds w ra 61 #[.slice none 0 0, .bool false, .bool false, .int .i64 0, .int .i64 0, .slice none 0 0]
  cell : Holds w (ra + 1) 61 #[v1, .bool en, .bool rs, .int .i64 lo, .int .i64 hi, v2]
  o1 : w.ownsRow B 75 2 v1 al.length (al.flatMap Al.cells)
  o2 : w.ownsRow B 118 4 v2 md.length (md.flatMap Nm.cells)
  M : Writes [some g] w0 w
  g0 : g < w0.heap.size
  n0 : w0.heap.size ≤ ra
  nb : ra + 1 < B
  sz : B ≤ w.heap.size
section
variable {w0 w w' : World} {g ra B : Nat} {v1 v2 : Value} {al : List Al} {en rs : Bool} {lo hi : Int} {md : List Nm}
theorem SmAt.below (h : SmAt w0 w g ra B v1 al en rs lo hi v2 md) (hb : Below w.heap.size w w') : SmAt w0 w' g ra B v1 al en rs lo hi v2 md :=
  ⟨h.zero.below hb h.zero.lt, h.cell.below hb h.cell.lt, own_below h.o1 hb, own_below h.o2 hb, h.M.trans (Writes.of_below hb _), h.g0, h.n0, h.nb, Nat.le_trans h.sz hb.size⟩
/-- What writes none of its rows. -/
theorem SmAt.keep {M : List (Option Nat)} (h : SmAt w0 w g ra B v1 al en rs lo hi v2 md) (hM : Writes M w w') (hk : ∀ k, some k ∈ M → k = g ∨ B ≤ k) (h1 : v1.ownBlock = none ∨ v1.ownBlock ∉ M) (h2 : v2.ownBlock = none ∨ v2.ownBlock ∉ M) : SmAt w0 w' g ra B v1 al en rs lo hi v2 md := by
  have hg := h.g0
  have hn := h.n0
  have hb := h.nb
  exact ⟨hM.holds h.zero (fun e => by rcases hk _ e with h | h <;> omega), hM.holds h.cell (fun e => by rcases hk _ e with h | h <;> omega), hM.own h.o1 h1, hM.own h.o2 h2,
    h.M.then_ hM (fun k hk2 e => (hk _ e).elim (fun h => by rw [h]; simp) (fun h => by omega)), h.g0, h.n0, h.nb, Nat.le_trans h.sz hM.size⟩
theorem SmAt.call (h : SmAt w0 w g ra B v1 al en rs lo hi v2 md) (hM : Writes [some g] w w') : SmAt w0 w' g ra B v1 al en rs lo hi v2 md := by
  have hg := h.g0
  have hn := h.n0
  have hb := h.nb
  refine h.keep hM (fun k hk => .inl (by simpa using hk)) ?_ ?_
  · by_cases e : v1.ownBlock = none
    · exact .inl e
    · refine .inr fun hm => ?_
      simp only [List.mem_cons, List.mem_nil_iff, or_false] at hm
      have := own_low h.o1 hm.symm
      omega
  · by_cases e : v2.ownBlock = none
    · exact .inl e
    · refine .inr fun hm => ?_
      simp only [List.mem_cons, List.mem_nil_iff, or_false] at hm
      have := own_low h.o2 hm.symm
      omega
/-- A write into a block that is new, and no row of its own. -/
theorem SmAt.other {ka : Nat} (h : SmAt w0 w g ra B v1 al en rs lo hi v2 md) (hM : Writes [some ka] w w') (hk : B ≤ ka) (h1 : v1.ownBlock ≠ some ka) (h2 : v2.ownBlock ≠ some ka) : SmAt w0 w' g ra B v1 al en rs lo hi v2 md :=
  h.keep hM (fun k hk2 => .inr (by simp at hk2; omega)) (.inr (by simpa using h1)) (.inr (by simpa using h2))
theorem SmAt.jnk (h : SmAt w0 w g ra B v1 al en rs lo hi v2 md) {α : Type} {val : World → α → Value → Prop} {r : Option (α × List UInt8)} (hM : Writes [some g] w w') (hr : r = none) (s : ByteArray) (hj : Jnk w' g) :
    Read w0 g val r (.panicked [{ v := .iface 9 (.string s), recovered := false }]) w' := Read.no (h.M.trans hM) hr s hj
/-- The world behind an append to the first row, and the store of it. -/
theorem SmAt.app1 {v' : Value} {a : Al} {n : Nat} {xs : List Value} (h : SmAt w0 w g ra B v1 al en rs lo hi v2 md) (hn : n = al.length) (hx : xs = al.flatMap Al.cells) (ho : w'.ownsRow B 75 2 v' (n + 1) (xs ++ [.int .i64 a.pos, .int .i64 a.kind])) (hg : w.grownBy w' v1.ownBlock) :
    w'.cell? ⟨ra + 1, 0, none⟩ = some v1 ∧ w'.frozen? ⟨ra + 1, 0, none⟩ = false ∧ SmAt w0 (w'.setCell ⟨ra + 1, 0, none⟩ v') g ra B v' (al ++ [a]) en rs lo hi v2 md := by
  subst hn hx
  have hM : Writes [v1.ownBlock] w w' := Writes.of_grown hg (by simp)
  have hlow : ∀ k, some k ∈ [v1.ownBlock] → B ≤ k := fun k hk => own_low h.o1 (by simpa using hk)
  have hnb := h.nb
  have hn0 := h.n0
  have hg0 := h.g0
  have hc := hM.holds h.cell (fun e => by have := hlow _ e; omega)
  have hz := hM.holds h.zero (fun e => by have := hlow _ e; omega)
  have ho2 := own_other h.o2 h.o1 (by decide) hg
  have hst := Writes.store w' (M := [some (ra + 1)]) (p := ⟨ra + 1, 0, none⟩) (by simp) v'
  refine ⟨(hc.fact 0 rfl).2, hc.frozen 0, ⟨hst.holds hz (by simp), by have := hc.store 0 v'; simpa using this, ?_, hst.own ho2 ?_, ?_, h.g0, h.n0, h.nb, Nat.le_trans h.sz (Nat.le_trans hM.size hst.size)⟩⟩
  · have := own_above ho hst (fun j hj => by simp at hj; omega)
    simpa [Al.cells] using this
  · by_cases e : v2.ownBlock = none
    · exact .inl e
    · refine .inr fun hm => ?_
      simp only [List.mem_cons, List.mem_nil_iff, or_false] at hm
      have := own_low h.o2 hm.symm
      omega
  · refine (h.M.then_ hM (M := [some g]) (fun k hk e => by have := hlow k e; omega)).then_ hst (fun k hk e => by simp at e; omega)
theorem SmAt.app2 {v' : Value} {a : Nm} {n : Nat} {xs : List Value} (h : SmAt w0 w g ra B v1 al en rs lo hi v2 md) (hn : n = md.length) (hx : xs = md.flatMap Nm.cells) (ho : w'.ownsRow B 118 4 v' (n + 1) (xs ++ [.string a.name, .bool a.v.s, .int .i64 a.v.lo, .int .i64 a.v.hi])) (hg : w.grownBy w' v2.ownBlock) :
    w'.cell? ⟨ra + 1, 5, none⟩ = some v2 ∧ w'.frozen? ⟨ra + 1, 5, none⟩ = false ∧ SmAt w0 (w'.setCell ⟨ra + 1, 5, none⟩ v') g ra B v1 al en rs lo hi v' (md ++ [a]) := by
  subst hn hx
  have hM : Writes [v2.ownBlock] w w' := Writes.of_grown hg (by simp)
  have hlow : ∀ k, some k ∈ [v2.ownBlock] → B ≤ k := fun k hk => own_low h.o2 (by simpa using hk)
  have hnb := h.nb
  have hn0 := h.n0
  have hg0 := h.g0
  have hc := hM.holds h.cell (fun e => by have := hlow _ e; omega)
  have hz := hM.holds h.zero (fun e => by have := hlow _ e; omega)
  have ho2 := own_other h.o1 h.o2 (by decide) hg
  have hst := Writes.store w' (M := [some (ra + 1)]) (p := ⟨ra + 1, 5, none⟩) (by simp) v'
  refine ⟨(hc.fact 5 rfl).2, hc.frozen 5, ⟨hst.holds hz (by simp), by have := hc.store 5 v'; simpa using this, hst.own ho2 ?_, ?_, ?_, h.g0, h.n0, h.nb, Nat.le_trans h.sz (Nat.le_trans hM.size hst.size)⟩⟩
  · by_cases e : v1.ownBlock = none
    · exact .inl e
    · refine .inr fun hm => ?_
      simp only [List.mem_cons, List.mem_nil_iff, or_false] at hm
      have := own_low h.o1 hm.symm
      omega
  · have := own_above ho hst (fun j hj => by simp at hj; omega)
    simpa [Nm.cells, Iv.cells] using this
  · refine (h.M.then_ hM (M := [some g]) (fun k hk e => by have := hlow k e; omega)).then_ hst (fun k hk e => by simp at e; omega)
/-- A store into one of its plain fields. -/
theorem SmAt.self (h : SmAt w0 w g ra B v1 al en rs lo hi v2 md) {en' rs' : Bool} {lo' hi' : Int} (hM : Writes [some (ra + 1)] w w') (hc : Holds w' (ra + 1) 61 #[v1, .bool en', .bool rs', .int .i64 lo', .int .i64 hi', v2]) : SmAt w0 w' g ra B v1 al en' rs' lo' hi' v2 md := by
  have hnb := h.nb
  have hn0 := h.n0
  have hg0 := h.g0
  refine ⟨hM.holds h.zero (by simp), hc, hM.own h.o1 ?_, hM.own h.o2 ?_, h.M.then_ hM (fun k hk e => by simp at e; omega), h.g0, h.n0, h.nb, Nat.le_trans h.sz hM.size⟩
  · by_cases e : v1.ownBlock = none
    · exact .inl e
    · refine .inr fun hm => ?_
      simp only [List.mem_cons, List.mem_nil_iff, or_false] at hm
      have := own_low h.o1 hm.symm
      omega
  · by_cases e : v2.ownBlock = none
    · exact .inl e
    · refine .inr fun hm => ?_
      simp only [List.mem_cons, List.mem_nil_iff, or_false] at hm
      have := own_low h.o2 hm.symm
      omega
theorem SmAt.start (w0 : World) (g : Nat) (hg : g < w0.heap.size) :
    SmAt w0 ((w0.alloc (.cells #[.slice none 0 0, .bool false, .bool false, .int .i64 0, .int .i64 0, .slice none 0 0] 61)).alloc (.cells #[.slice none 0 0, .bool false, .bool false, .int .i64 0, .int .i64 0, .slice none 0 0] 61)) g w0.heap.size (w0.heap.size + 2) (.slice none 0 0) [] false false 0 0 (.slice none 0 0) [] := by
  have hb := below_new w0 (.cells #[.slice none 0 0, .bool false, .bool false, .int .i64 0, .int .i64 0, .slice none 0 0] 61)
  have h2 := Holds.new (w0.alloc (.cells #[.slice none 0 0, .bool false, .bool false, .int .i64 0, .int .i64 0, .slice none 0 0] 61)) 61 #[.slice none 0 0, .bool false, .bool false, .int .i64 0, .int .i64 0, .slice none 0 0]
  rw [show (w0.alloc (.cells #[.slice none 0 0, .bool false, .bool false, .int .i64 0, .int .i64 0, .slice none 0 0] 61)).heap.size = w0.heap.size + 1 by simp] at h2
  exact ⟨(Holds.new w0 _ _).alloc _, h2, World.ownsRow_nil _ _ _ _, World.ownsRow_nil _ _ _ _, (Writes.of_below hb _).trans (Writes.of_below (below_new _ _) _), hg, Nat.le_refl _, by omega, by simp⟩
end
/-- What a summary's reader answers. -/
def SmV (n0 : Nat) (w : World) (s : Sm) (v : Value) : Prop :=
  ∃ v1 v2, v = .agg #[v1, .bool s.ends, .bool s.ret.s, .int .i64 s.ret.lo, .int .i64 s.ret.hi, v2] ∧ w.ownsRow n0 75 2 v1 s.al.length (s.al.flatMap Al.cells) ∧ w.ownsRow n0 118 4 v2 s.md.length (s.md.flatMap Nm.cells)
end Go.Proofs.Ytimhghmnnibajaa
