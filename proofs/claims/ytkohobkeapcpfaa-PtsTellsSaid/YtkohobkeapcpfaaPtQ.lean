/-
  The walk of the reference's Add: into a list, in its place, once.
-/
import Derived.Test.YtkohobkeapcpfaaPtP
import Derived.Test.YtkohobkeapcpfaaOwn
import Derived.ArgAppend
import Derived.Test.YtkohobkeapcpfaaRelL
namespace Go.Proofs.Ytkohobkeapcpfaa
open Go.RowKit

theorem addS_eq : ∀ (k : Nat) (l : List S) (x : S), (∀ y ∈ l.take k, y < x) → (h : k < l.length) → l[k] = x → addS l x = l
  | 0, y :: r, x, _, _, e => by
    simp at e
    subst e
    unfold addS
    rw [if_neg (List.lt_irrefl y), if_pos rfl]
  | k + 1, y :: r, x, hb, h, e => by
    have h1 : y < x := hb y (by simp)
    unfold addS
    rw [if_pos h1, addS_eq k r x (fun z hz => hb z (by simp [hz])) (by simpa using h) (by simpa using e)]
theorem addS_ins : ∀ (k : Nat) (l : List S) (x : S), (∀ y ∈ l.take k, y < x) → k ≤ l.length → (∀ h : k < l.length, ¬ l[k] < x ∧ l[k] ≠ x) → addS l x = l.take k ++ x :: l.drop k
  | 0, [], x, _, _, _ => rfl
  | 0, y :: r, x, _, _, e => by
    obtain ⟨h1, h2⟩ := e (by simp)
    simp at h1 h2
    unfold addS
    rw [if_neg (by simpa using h1), if_neg h2]
    rfl
  | k + 1, [], x, _, h, _ => by simp at h
  | k + 1, y :: r, x, hb, h, e => by
    have h1 : y < x := hb y (by simp)
    unfold addS
    rw [if_pos h1, addS_ins k r x (fun z hz => hb z (by simp [hz])) (by simpa using h) (fun hk => e (Nat.succ_lt_succ hk))]
    rfl

section
variable {P : Program} (w : World)
/-- append where there is no room: a new block, whatever the two rows are. -/
theorem run_append_new (t ty e : TypeId) (i : TypeInfo) (z : Value) (bytes : Nat) (ht : P.underlying t = some (.slice e)) (hi : P.info? e = some i) (hz : i.zero = some z) (hsize : i.size = 1) (hby : i.bytes = bytes) (hzs : z.cells.size = 1)
    (A : Option Addr) (n c : Nat) (olds : List Value) (hlo : olds.length = n) {B : Nat} (hro : Row w B A olds) (hn0 : A = none → c = 0)
    (A' : Option Addr) (m c' : Nat) (news : List Value) (hln : news.length = m) {B' : Nat} (hrn : Row w B' A' news) (h1 : ∀ u ∈ news, u.oneCell' = true) (hm : 0 < m)
    (hg : c < n + m) (h63 : n + m ≤ maxLen) (hbytes : (n + m) * bytes ≤ 140737488355328) :
    ∃ v' w', (Builtin.append_ #[t, t] ty #[.slice A n c, .slice A' m c']).run P w = .ok v' w' ∧ w'.ownsRow w.heap.size e 1 v' (n + m) (olds ++ news) ∧ Below w.heap.size w w' := by
  obtain ⟨bn, on, rfl, _, hcn⟩ := hrn (by rintro rfl; simp at hln; omega)
  have hadd : ∀ (b o j : Nat), (⟨b, o, none⟩ : Addr).add j = ⟨b, o + j, none⟩ := fun b o j => by unfold Addr.add; split <;> simp_all
  rcases A with _ | a
  · have hc0 := hn0 rfl
    subst hc0
    have hn : n = 0 := by
      rcases olds with _ | ⟨u, r⟩
      · simpa using hlo.symm
      · obtain ⟨_, _, h, _⟩ := hro (by simp); cases h
    subst hn
    have ho : olds = [] := List.eq_nil_of_length_eq_zero hlo
    subst ho
    obtain ⟨v', w', h1, h2, h3, _⟩ := run_append_own (P := P) w w.heap.size t ty e i z 1 bytes ht hi hz hsize hby hzs (by omega) (.slice none 0 0) 0 [] (World.ownsRow_nil _ _ _ _) ⟨bn, on, none⟩ m c' news (by omega) (fun j u hu => by rw [hadd]; exact hcn j u hu) h1 h63 hbytes (Nat.le_refl _)
    exact ⟨v', w', h1, h2, ⟨h3.os, h3.tape, h3.output, h3.size, fun k hk => h3.block k hk (by simp [Value.ownBlock])⟩⟩
  · obtain ⟨v', w', h1, h2, h3⟩ := run_append_arg_grows (P := P) w t ty e i z 1 bytes ht hi hz hsize hby hzs (by omega) a n c olds (by omega) (fun j u hu => by
      obtain ⟨b, off, h, _, hc⟩ := hro (by rintro rfl; simp at hu)
      injection h with h
      subst h
      rw [hadd]
      exact hc j u hu) ⟨bn, on, none⟩ m c' news (by omega) (fun j u hu => by rw [hadd]; exact hcn j u hu) hg h63 hbytes
    exact ⟨v', w', h1, h2, ⟨h3.os, h3.tape, h3.output, h3.size, fun k hk => h3.block k hk (by simp)⟩⟩
end
/-- v is a slice of the cells vs. -/
def Sl (w : World) (vs : List Value) (v : Value) : Prop := ∃ A c, v = .slice A vs.length c ∧ Row w w.heap.size A vs ∧ vs.length ≤ c
theorem Sl.up {w w' : World} {vs : List Value} {v : Value} (h : Sl w vs v) (hb : Below w.heap.size w w') : Sl w' vs v := by
  obtain ⟨A, c, e, h1, h2⟩ := h
  exact ⟨A, c, e, (h1.below hb).more hb.size, h2⟩
theorem Sl.own {w : World} {B : Nat} {e : TypeId} {v : Value} {n : Nat} {vs : List Value} (h : w.ownsRow B e 1 v n vs) : Sl w vs v := by
  obtain ⟨A, c, rfl, hr, hl, hc⟩ := own_row h
  subst hl
  exact ⟨A, c, rfl, hr, hc⟩
section
variable {P : Program} (w : World)
/-- append onto a slice without room behind it. -/
theorem run_append_tight (t ty e : TypeId) (i : TypeInfo) (z : Value) (bytes : Nat) (ht : P.underlying t = some (.slice e)) (hi : P.info? e = some i) (hz : i.zero = some z) (hsize : i.size = 1) (hby : i.bytes = bytes) (hzs : z.cells.size = 1)
    (A : Option Addr) (n : Nat) (olds : List Value) (hlo : olds.length = n) (hro : Row w w.heap.size A olds)
    (A' : Option Addr) (m c' : Nat) (news : List Value) (hln : news.length = m) {B' : Nat} (hrn : Row w B' A' news) (h1 : ∀ u ∈ news, u.oneCell' = true)
    (h63 : n + m ≤ maxLen) (hbytes : (n + m) * bytes ≤ 140737488355328) :
    ∃ v' w', (Builtin.append_ #[t, t] ty #[.slice A n n, .slice A' m c']).run P w = .ok v' w' ∧ Sl w' (olds ++ news) v' ∧ Below w.heap.size w w' := by
  rcases Nat.eq_zero_or_pos m with hm | hm
  · subst hm
    have := List.eq_nil_of_length_eq_zero hln
    subst this
    refine ⟨.slice A n n, w, ?_, ⟨A, n, by simp [hlo], by simpa using hro, by simp [hlo]⟩, Below.refl _ _⟩
    cases A <;> cases A' <;> simp [Builtin.append_, run_underlying ht, sizeOf, typeInfo, hi, Builtin.lenOf, Builtin.firstCells, storeCells, loadCells, loadCellsFrom]
  · obtain ⟨v', w', h2, h3, h4⟩ := run_append_new (P := P) w t ty e i z bytes ht hi hz hsize hby hzs A n n olds hlo hro (fun h => by
      subst h
      rcases olds with _ | ⟨u, r⟩
      · simpa using hlo.symm
      · obtain ⟨_, _, h, _⟩ := hro (by simp); cases h) A' m c' news hln hrn h1 hm (by omega) h63 hbytes
    exact ⟨v', w', h2, Sl.own h3, h4⟩
theorem relUpon_append_tight {o : Oper} {ρ : Operand → Value} {A1 B1 : World → Prop} {D : World → Value → Prop} (s x : Operand) (t : TypeId)
    (ho : o.op = .call { callee := .builtin .append, args := #[s, x], argTypes := #[t, t] })
    (e : TypeId) (i : TypeInfo) (z : Value) (bytes : Nat) (ht : P.underlying t = some (.slice e)) (hi : P.info? e = some i) (hz : i.zero = some z) (hsize : i.size = 1) (hby : i.bytes = bytes) (hzs : z.cells.size = 1)
    (A : Option Addr) (n : Nat) (olds : List Value) (hs : ρ s = .slice A n n) (hlo : olds.length = n) (hro : Row w w.heap.size A olds)
    (A' : Option Addr) (m c' : Nat) (news : List Value) (hx : ρ x = .slice A' m c') (hln : news.length = m) {B' : Nat} (hrn : Row w B' A' news) (h1 : ∀ u ∈ news, u.oneCell' = true)
    (h63 : n + m ≤ maxLen) (hbytes : (n + m) * bytes ≤ 140737488355328)
    (h : ∀ v' w', Sl w' (olds ++ news) v' → Below w.heap.size w w' → A1 w' ∧ B1 w' ∧ D w' v') :
    relUpon P (fun v w' => A1 w' ∧ B1 w' ∧ D w' v) ((execOp ρ o).run P w) := by
  obtain ⟨v', w', hrun, h2, h3⟩ := run_append_tight (P := P) w t o.type e i z bytes ht hi hz hsize hby hzs A n olds hlo hro A' m c' news hln hrn h1 h63 hbytes
  unfold execOp
  simp only [ho, resolve, invoke, builtin, Sem.run_bind, Sem.run_pure, Result.andThen_ok, List.map_toArray, List.map_cons, List.map_nil, hs, hx, hrun]
  exact h v' w' h2 h3
end
end Go.Proofs.Ytkohobkeapcpfaa
