/-
  Summaries and parts as arguments: what they open to, and how they are read out of a slice.
-/
import Derived.Test.YtimhghmnnibajaaCodeU
namespace Go.Proofs.Ytimhghmnnibajaa
open Go.RowKit Go.ChangeShapes Go.WideShapes Go.Deep

theorem Try.cBool : Try.prog.cellsOf 4 = 1 := by kernel_rfl
theorem Try.cI64 : Try.prog.cellsOf 2 = 1 := by kernel_rfl
theorem Try.cInt : Try.prog.cellsOf 3 = 1 := by kernel_rfl
theorem Try.cStr : Try.prog.cellsOf 9 = 1 := by kernel_rfl
theorem Try.cIv : Try.prog.cellsOf 58 = 3 := by kernel_rfl
theorem Try.cAl : Try.prog.cellsOf 75 = 2 := by kernel_rfl
theorem Try.cNm : Try.prog.cellsOf 118 = 4 := by kernel_rfl
theorem Try.cSm : Try.prog.cellsOf 61 = 6 := by kernel_rfl
theorem Try.cAls : Try.prog.cellsOf 56 = 1 := by kernel_rfl
theorem Try.cNms : Try.prog.cellsOf 59 = 1 := by kernel_rfl

theorem i64_of_wf {n : Int} (h : (Lit.int .i64 n).wf = true) : i64ok n := by
  simp [Lit.wf, IntKind.min, IntKind.max, IntKind.signed, IntKind.bits] at h
  unfold i64ok
  omega
section
variable {W : World} {cs : List Value}
set_option maxRecDepth 100000 in
theorem Trd.iv (h : Trd 58 W cs) : ∃ v : Iv, cs = v.cells ∧ v.ok := by
  obtain ⟨hl, hf⟩ := h.struct Try.underlying58
  rw [Try.cIv] at hl
  match cs, hl with
  | [a, b, c], _ =>
    have h0 : Trd 4 W (([a, b, c].drop 0).take (Try.prog.cellsOf 4)) := hf 0 _ rfl
    have h1 : Trd 2 W (([a, b, c].drop 1).take (Try.prog.cellsOf 2)) := hf 1 _ rfl
    have h2 : Trd 2 W (([a, b, c].drop 2).take (Try.prog.cellsOf 2)) := hf 2 _ rfl
    rw [Try.cBool] at h0
    rw [Try.cI64] at h1
    rw [Try.cI64] at h2
    simp only [List.drop_zero, List.drop_succ_cons, List.take_succ_cons, List.take_zero] at h0 h1 h2
    obtain ⟨s, e0⟩ := h0.bool Try.underlying4
    obtain ⟨lo, e1, w1⟩ := h1.int Try.underlying2
    obtain ⟨hi, e2, w2⟩ := h2.int Try.underlying2
    simp only [List.cons.injEq, and_true] at e0 e1 e2
    subst e0 e1 e2
    exact ⟨⟨s, lo, hi⟩, rfl, i64_of_wf w1, i64_of_wf w2⟩
set_option maxRecDepth 100000 in
theorem Trd.al (h : Trd 75 W cs) : ∃ v : Al, cs = v.cells ∧ v.ok := by
  obtain ⟨hl, hf⟩ := h.struct Try.underlying75
  rw [Try.cAl] at hl
  match cs, hl with
  | [a, b], _ =>
    have h0 : Trd 3 W (([a, b].drop 0).take (Try.prog.cellsOf 3)) := hf 0 _ rfl
    have h1 : Trd 3 W (([a, b].drop 1).take (Try.prog.cellsOf 3)) := hf 1 _ rfl
    rw [Try.cInt] at h0
    rw [Try.cInt] at h1
    simp only [List.drop_zero, List.drop_succ_cons, List.take_succ_cons, List.take_zero] at h0 h1
    obtain ⟨lo, e1, w1⟩ := h0.int Try.underlying3
    obtain ⟨hi, e2, w2⟩ := h1.int Try.underlying3
    simp only [List.cons.injEq, and_true] at e1 e2
    subst e1 e2
    exact ⟨⟨lo, hi⟩, rfl, i64_of_wf w1, i64_of_wf w2⟩
set_option maxRecDepth 100000 in
theorem Trd.nm (h : Trd 118 W cs) : ∃ v : Nm, cs = v.cells ∧ v.ok maxLen := by
  obtain ⟨hl, hf⟩ := h.struct Try.underlying118
  rw [Try.cNm] at hl
  match cs, hl with
  | [a, b, c, d], _ =>
    have h0 : Trd 9 W (([a, b, c, d].drop 0).take (Try.prog.cellsOf 9)) := hf 0 _ rfl
    have h1 : Trd 58 W (([a, b, c, d].drop 1).take (Try.prog.cellsOf 58)) := hf 1 _ rfl
    rw [Try.cStr] at h0
    rw [Try.cIv] at h1
    simp only [List.drop_zero, List.drop_succ_cons, List.take_succ_cons, List.take_zero] at h0 h1
    obtain ⟨s, e0, w0⟩ := h0.string Try.underlying9
    obtain ⟨v, e1, w1⟩ := h1.iv
    simp only [List.cons.injEq, and_true] at e0
    subst e0
    exact ⟨⟨s, v⟩, by unfold Nm.cells; rw [← e1], w0, w1⟩
/-- Elements of several cells. -/
theorem Trd.rows {α : Type} {t e : TypeId} {f : α → List Value} {p : α → Prop} (ht : Try.prog.underlying t = some (.slice e)) (hd : ∀ x, Trd e W x → ∃ a, x = f a ∧ p a) (h : Trd t W cs) :
    ∃ (A : Option Addr) (n c : Nat) (l : List α), cs = [.slice A n c] ∧ l.length = n ∧ n ≤ c ∧ c ≤ maxLen ∧ (∀ a ∈ l, p a) ∧ Row W W.heap.size A (l.flatMap f) := by
  obtain ⟨A, n, c, css, rfl, hn, hc, hm, hx, hr⟩ := h.slice ht
  have : ∀ css : List (List Value), (∀ x ∈ css, Trd e W x) → ∃ l : List α, l.length = css.length ∧ css.flatten = l.flatMap f ∧ ∀ a ∈ l, p a := by
    intro css
    induction css with
    | nil => exact fun _ => ⟨[], rfl, rfl, by simp⟩
    | cons y r ih =>
      intro hy
      obtain ⟨l, h1, h2, h3⟩ := ih fun x hx => hy x (List.mem_cons_of_mem _ hx)
      obtain ⟨a, rfl, ha⟩ := hd y (hy y (List.mem_cons_self ..))
      refine ⟨a :: l, by simp [h1], by simp [h2], fun x hx => ?_⟩
      rcases List.mem_cons.1 hx with rfl | hx
      · exact ha
      · exact h3 x hx
  obtain ⟨l, h1, h2, h3⟩ := this css fun x hx' => (hx x hx').2
  exact ⟨A, n, c, l, rfl, by omega, hc, hm, h3, by rw [← h2]; exact hr⟩
/-- The cells of a summary, its two rows in memory. -/
def SmIs (w : World) (B : Nat) (cs : List Value) (s : Sm) : Prop :=
  ∃ A1 c1 A2 c2, cs = [.slice A1 s.al.length c1, .bool s.ends, .bool s.ret.s, .int .i64 s.ret.lo, .int .i64 s.ret.hi, .slice A2 s.md.length c2] ∧ Row w B A1 (s.al.flatMap Al.cells) ∧ Row w B A2 (s.md.flatMap Nm.cells) ∧ s.al.length ≤ maxLen ∧ s.md.length ≤ maxLen
set_option maxRecDepth 100000 in
theorem Trd.sm (h : Trd 61 W cs) : ∃ s : Sm, SmIs W W.heap.size cs s ∧ s.ok maxLen := by
  obtain ⟨hl, hf⟩ := h.struct Try.underlying61
  rw [Try.cSm] at hl
  match cs, hl with
  | [a, b, c, d, e, g], _ =>
    have h0 : Trd 56 W (([a, b, c, d, e, g].drop 0).take (Try.prog.cellsOf 56)) := hf 0 _ rfl
    have h1 : Trd 4 W (([a, b, c, d, e, g].drop 1).take (Try.prog.cellsOf 4)) := hf 1 _ rfl
    have h2 : Trd 58 W (([a, b, c, d, e, g].drop 2).take (Try.prog.cellsOf 58)) := hf 2 _ rfl
    have h3 : Trd 59 W (([a, b, c, d, e, g].drop 5).take (Try.prog.cellsOf 59)) := hf 3 _ rfl
    rw [Try.cAls] at h0
    rw [Try.cBool] at h1
    rw [Try.cIv] at h2
    rw [Try.cNms] at h3
    simp only [List.drop_zero, List.drop_succ_cons, List.take_succ_cons, List.take_zero] at h0 h1 h2 h3
    obtain ⟨A1, n1, c1, al, e0, hn1, hc1, hm1, ho1, hr1⟩ := Trd.rows (f := Al.cells) (p := Al.ok) Try.underlying56 (fun x hx => hx.al) h0
    obtain ⟨s, e1⟩ := h1.bool Try.underlying4
    obtain ⟨v, e2, w2⟩ := h2.iv
    obtain ⟨A2, n2, c2, md, e3, hn2, hc2, hm2, ho2, hr2⟩ := Trd.rows (f := Nm.cells) (p := Nm.ok maxLen) Try.underlying59 (fun x hx => hx.nm) h3
    simp only [List.cons.injEq, and_true] at e0 e1 e3
    subst e0 e1 e3 hn1 hn2
    unfold Iv.cells at e2
    simp only [List.cons.injEq, and_true] at e2
    obtain ⟨rfl, rfl, rfl⟩ := e2
    exact ⟨⟨al, s, v, md⟩, ⟨A1, c1, A2, c2, rfl, hr1, hr2, Nat.le_trans hc1 hm1, Nat.le_trans hc2 hm2⟩, ho1, w2, ho2⟩
end
theorem SmIs.below {w w' : World} {B : Nat} {cs : List Value} {s : Sm} (h : SmIs w B cs s) (hb : Below B w w') : SmIs w' B cs s := by
  obtain ⟨A1, c1, A2, c2, h1, h2, h3, h4⟩ := h
  exact ⟨A1, c1, A2, c2, h1, h2.below hb, h3.below hb, h4⟩

theorem Try.cU8 : Try.prog.cellsOf 5 = 1 := by kernel_rfl
theorem Try.cU64 : Try.prog.cellsOf 37 = 1 := by kernel_rfl
theorem Try.cPt : Try.prog.cellsOf 63 = 9 := by kernel_rfl
/-- A part. -/
structure Pt where
  what : Nat
  n : Nat
  t : ByteArray
  s : Sm
def Pt.ok (M : Nat) (p : Pt) : Prop := p.what < 256 ∧ p.n < 18446744073709551616 ∧ p.t.size ≤ M ∧ p.s.ok M
def PtIs (w : World) (B : Nat) (cs : List Value) (p : Pt) : Prop := ∃ ss, cs = [.int .u8 p.what, .int .u64 p.n, .string p.t] ++ ss ∧ SmIs w B ss p.s
theorem PtIs.below {w w' : World} {B : Nat} {cs : List Value} {p : Pt} (h : PtIs w B cs p) (hb : Below B w w') : PtIs w' B cs p := by
  obtain ⟨ss, h1, h2⟩ := h
  exact ⟨ss, h1, h2.below hb⟩
set_option maxRecDepth 100000 in
theorem Trd.pt {W : World} {cs : List Value} (h : Trd 63 W cs) : ∃ p : Pt, PtIs W W.heap.size cs p ∧ p.ok maxLen := by
  obtain ⟨hl, hf⟩ := h.struct Try.underlying63
  rw [Try.cPt] at hl
  match cs, hl with
  | [a, b, c, d, e, g, i, j, k], _ =>
    have h0 : Trd 5 W (([a, b, c, d, e, g, i, j, k].drop 0).take (Try.prog.cellsOf 5)) := hf 0 _ rfl
    have h1 : Trd 37 W (([a, b, c, d, e, g, i, j, k].drop 1).take (Try.prog.cellsOf 37)) := hf 1 _ rfl
    have h2 : Trd 9 W (([a, b, c, d, e, g, i, j, k].drop 2).take (Try.prog.cellsOf 9)) := hf 2 _ rfl
    have h3 : Trd 61 W (([a, b, c, d, e, g, i, j, k].drop 3).take (Try.prog.cellsOf 61)) := hf 3 _ rfl
    rw [Try.cU8] at h0
    rw [Try.cU64] at h1
    rw [Try.cStr] at h2
    rw [Try.cSm] at h3
    simp only [List.drop_zero, List.drop_succ_cons, List.take_succ_cons, List.take_zero] at h0 h1 h2 h3
    obtain ⟨n0, e0, w0⟩ := h0.int Try.underlying5
    obtain ⟨n1, e1, w1⟩ := h1.int Try.underlying37
    obtain ⟨s, e2, w2⟩ := h2.string Try.underlying9
    obtain ⟨m, e3, w3⟩ := h3.sm
    simp only [List.cons.injEq, and_true] at e0 e1 e2
    subst e0 e1 e2
    have b0 := bounds_u8 w0
    simp [Lit.wf, IntKind.min, IntKind.max, IntKind.signed, IntKind.bits] at w1
    refine ⟨⟨n0.toNat, n1.toNat, s, m⟩, ⟨_, ?_, e3⟩, by simp only; omega, by simp only; omega, w2, w3⟩
    simp only [Int.toNat_of_nonneg b0.1, Int.toNat_of_nonneg w1.1]
    rfl
/-- Parts in memory, below B. -/
def Parts (w : World) (B : Nat) (A : Option Addr) (ps : List Pt) : Prop :=
  ∃ css : List (List Value), css.length = ps.length ∧ (∀ x ∈ css, x.length = 9) ∧ Row w B A css.flatten ∧ ∀ (k : Nat) p, ps[k]? = some p → ∃ cs, css[k]? = some cs ∧ PtIs w B cs p
theorem Parts.below {w w' : World} {B : Nat} {A : Option Addr} {ps : List Pt} (h : Parts w B A ps) (hb : Below B w w') : Parts w' B A ps := by
  obtain ⟨css, h1, h2, h3, h4⟩ := h
  exact ⟨css, h1, h2, h3.below hb, fun k p hk => by
    obtain ⟨cs, h5, h6⟩ := h4 k p hk
    exact ⟨cs, h5, h6.below hb⟩⟩
/-- The k-th part's cells. -/
structure PtAt (w : World) (B b off k : Nat) (p : Pt) (A1 : Option Addr) (c1 : Nat) (A2 : Option Addr) (c2 : Nat) : Prop where
  lt : b < B
  what : w.cell? ⟨b, off + k * 9, none⟩ = some (.int .u8 p.what)
  n : w.cell? ⟨b, off + k * 9 + 1, none⟩ = some (.int .u64 p.n)
  t : w.cell? ⟨b, off + k * 9 + 2, none⟩ = some (.string p.t)
  s0 : w.cell? ⟨b, off + k * 9 + 3, none⟩ = some (.slice A1 p.s.al.length c1)
  s1 : w.cell? ⟨b, off + k * 9 + 4, none⟩ = some (.bool p.s.ends)
  s2 : w.cell? ⟨b, off + k * 9 + 5, none⟩ = some (.bool p.s.ret.s)
  s3 : w.cell? ⟨b, off + k * 9 + 6, none⟩ = some (.int .i64 p.s.ret.lo)
  s4 : w.cell? ⟨b, off + k * 9 + 7, none⟩ = some (.int .i64 p.s.ret.hi)
  s5 : w.cell? ⟨b, off + k * 9 + 8, none⟩ = some (.slice A2 p.s.md.length c2)
  r1 : Row w B A1 (p.s.al.flatMap Al.cells)
  r2 : Row w B A2 (p.s.md.flatMap Nm.cells)
theorem Parts.at_ {w : World} {B : Nat} {A : Option Addr} {ps : List Pt} (h : Parts w B A ps) {k : Nat} (hk : k < ps.length) : ∃ b off A1 c1 A2 c2, A = some ⟨b, off, none⟩ ∧ PtAt w B b off k ps[k] A1 c1 A2 c2 := by
  obtain ⟨css, h1, h2, h3, h4⟩ := h
  obtain ⟨cs, h5, ss, rfl, A1, c1, A2, c2, rfl, r1, r2, _⟩ := h4 k _ (List.getElem?_eq_getElem hk)
  have hf : ∀ r u, ([Value.int .u8 ps[k].what, .int .u64 ps[k].n, .string ps[k].t] ++ [.slice A1 ps[k].s.al.length c1, .bool ps[k].s.ends, .bool ps[k].s.ret.s, .int .i64 ps[k].s.ret.lo, .int .i64 ps[k].s.ret.hi, .slice A2 ps[k].s.md.length c2])[r]? = some u → css.flatten[k * 9 + r]? = some u := fun r u hu => flat_get h2 h5 hu
  obtain ⟨b, off, e, hb, hc⟩ := h3 (fun e => by
    have := hf 0 _ rfl
    rw [e] at this
    cases this)
  have hg : ∀ r u, ([Value.int .u8 ps[k].what, .int .u64 ps[k].n, .string ps[k].t] ++ [.slice A1 ps[k].s.al.length c1, .bool ps[k].s.ends, .bool ps[k].s.ret.s, .int .i64 ps[k].s.ret.lo, .int .i64 ps[k].s.ret.hi, .slice A2 ps[k].s.md.length c2])[r]? = some u → w.cell? ⟨b, off + k * 9 + r, none⟩ = some u := fun r u hu => by
    rw [Nat.add_assoc]
    exact hc _ _ (hf r u hu)
  exact ⟨b, off, A1, c1, A2, c2, e, hb, hg 0 _ rfl, hg 1 _ rfl, hg 2 _ rfl, hg 3 _ rfl, hg 4 _ rfl, hg 5 _ rfl, hg 6 _ rfl, hg 7 _ rfl, hg 8 _ rfl, r1, r2⟩
set_option maxRecDepth 100000 in
theorem ArgOk.parts {W : World} {v : Value} (h : ArgOk 53 W v) : ∃ (A : Option Addr) (n c : Nat) (ps : List Pt), v = .slice A n c ∧ ps.length = n ∧ n ≤ c ∧ c ≤ maxLen ∧ (∀ p ∈ ps, p.ok maxLen) ∧ Parts W W.heap.size A ps := by
  obtain ⟨A, n, c, rfl⟩ := okWide_slice Try.underlying53 h.choose_spec.choose_spec.choose_spec.choose_spec.choose_spec.1
  obtain ⟨A', n', c', css, e, h1, h2, h3, h4, h5⟩ := Trd.slice Try.underlying53 h.trd
  simp [Value.cells] at e
  obtain ⟨rfl, rfl, rfl⟩ := e
  rw [Try.cPt] at h4
  have : ∀ css : List (List Value), (∀ x ∈ css, Trd 63 W x) → ∃ l : List Pt, l.length = css.length ∧ (∀ a ∈ l, a.ok maxLen) ∧ ∀ (k : Nat) p, l[k]? = some p → ∃ cs, css[k]? = some cs ∧ PtIs W W.heap.size cs p := by
    intro css
    induction css with
    | nil => exact fun _ => ⟨[], rfl, by simp, by simp⟩
    | cons y r ih =>
      intro hy
      obtain ⟨l, h1, h2, h3⟩ := ih fun x hx => hy x (List.mem_cons_of_mem _ hx)
      obtain ⟨a, ha, hok⟩ := (hy y (List.mem_cons_self ..)).pt
      refine ⟨a :: l, by simp [h1], fun x hx => ?_, fun k p hk => ?_⟩
      · rcases List.mem_cons.1 hx with rfl | hx
        · exact hok
        · exact h2 x hx
      · cases k with
        | zero =>
          simp at hk
          subst hk
          exact ⟨y, rfl, ha⟩
        | succ k => exact h3 k p (by simpa using hk)
  obtain ⟨l, h6, h7, h8⟩ := this css fun x hx => (h4 x hx).2
  exact ⟨_, _, _, l, rfl, by omega, h2, h3, h7, css, h6.symm, fun x hx => (h4 x hx).1, h5, h8⟩
end Go.Proofs.Ytimhghmnnibajaa
