/-
  Things that lie in blocks of their own, side by side: each says what it says of its own blocks alone; what one of them turns leaves the others as they are. No program in sight.
-/
import Derived.Test.YtelglbblgkhcmaaGreatWr
namespace Go.Proofs.YtelglbblgkhcmaaGreat
open Go.RowKit

/-- Nothing of what was there has turned but the blocks of F. -/
structure Tch (F : Nat → Prop) (w w' : World) : Prop where
  os : w'.os = w.os
  tape : w'.tape = w.tape
  output : w'.output = w.output
  size : w.heap.size ≤ w'.heap.size
  block : ∀ k, k < w.heap.size → ¬ F k → w'.heap[k]? = w.heap[k]?
section
variable {F F' : Nat → Prop} {w w' w'' : World}
theorem Tch.refl (F : Nat → Prop) (w : World) : Tch F w w := ⟨rfl, rfl, rfl, Nat.le_refl _, fun _ _ _ => rfl⟩
theorem Tch.of_below (h : Below w.heap.size w w') (F : Nat → Prop) : Tch F w w' := ⟨h.os, h.tape, h.output, h.size, fun k hk _ => h.block k hk⟩
theorem Tch.of_writes {M : List (Option Nat)} (h : Writes M w w') (hM : ∀ k, some k ∈ M → F k) : Tch F w w' := ⟨h.os, h.tape, h.output, h.size, fun k hk hn => h.block k hk (fun e => hn (hM k e))⟩
theorem Tch.of_grown {r : Option Nat} (h : w.grownBy w' r) (hr : ∀ k, r = some k → F k) : Tch F w w' := ⟨h.os, h.tape, h.output, h.size, fun k hk hn => h.block k hk (fun e => hn (hr k e.symm))⟩
theorem Tch.then_ (h : Tch F w w') (h' : Tch F' w' w'') (hF : ∀ k, k < w.heap.size → F' k → F k) : Tch F w w'' :=
  ⟨h'.os.trans h.os, h'.tape.trans h.tape, h'.output.trans h.output, Nat.le_trans h.size h'.size, fun k hk hn => (h'.block k (Nat.lt_of_lt_of_le hk h.size) (fun e => hn (hF k hk e))).trans (h.block k hk hn)⟩
theorem Tch.trans (h : Tch F w w') (h' : Tch F w' w'') : Tch F w w'' := h.then_ h' fun _ _ e => e
theorem Tch.more (h : Tch F w w') (hF : ∀ k, k < w.heap.size → F k → F' k) : Tch F' w w' := ⟨h.os, h.tape, h.output, h.size, fun k hk hn => h.block k hk (fun e => hn (hF k hk e))⟩
theorem Tch.below {B : Nat} (h : Tch F w w') (hB : B ≤ w.heap.size) (hF : ∀ k, F k → B ≤ k) : Below B w w' := ⟨h.os, h.tape, h.output, h.size, fun k hk => h.block k (by omega) (fun e => by have := hF k e; omega)⟩
theorem Tch.store (w : World) {p : Addr} (hp : F p.block) (u : Value) : Tch F w (w.setCell p u) := Tch.of_writes (Writes.store w (M := [some p.block]) (by simp) u) (fun k hk => by simp at hk; exact hk ▸ hp)
end

theorem cell_lt {w : World} {b o : Nat} {u : Value} (h : w.cell? ⟨b, o, none⟩ = some u) : b < w.heap.size := by
  rcases Nat.lt_or_ge b w.heap.size with h1 | h1
  · exact h1
  · simp [World.cell?, Array.getElem?_eq_none h1] at h
/-- What lies in some blocks: which (F), and what is said of them (P): of nothing else. -/
structure Ch where
  F : Nat → Prop
  P : World → Prop
  loc : ∀ w w' : World, (∀ x, F x → w'.heap[x]? = w.heap[x]?) → P w → P w'

/-- A block known whole. -/
def HoldC (g : Nat) (t : TypeId) (cs : Array Value) : Ch := ⟨fun x => x = g, fun w => Holds w g t cs, fun _ _ h hp => (h g rfl).trans hp⟩
/-- A row that is owned. -/
def OwnC (e : TypeId) (v : Value) (n : Nat) (xs : List Value) : Ch := ⟨fun x => v.ownBlock = some x, fun w => w.ownsRow 0 e 1 v n xs, fun w w' h hp => by
  refine ⟨hp.1, ?_⟩
  rcases hp.2 with h1 | ⟨g, cap, cur, rfl, hb, hg, r⟩
  · exact .inl h1
  · exact .inr ⟨g, cap, cur, rfl, hb, (h g (by simp [Value.ownBlock])).trans hg, r⟩⟩
/-- The cells vs behind A. -/
def RowAt (w : World) (A : Option Addr) (vs : List Value) : Prop := vs ≠ [] → ∃ b off, A = some ⟨b, off, none⟩ ∧ ∀ j u, vs[j]? = some u → w.cell? ⟨b, off + j, none⟩ = some u
def RowC (A : Option Addr) (vs : List Value) : Ch := ⟨fun x => vs ≠ [] ∧ blk A = some x, fun w => RowAt w A vs, fun w w' h hp hn => by
  obtain ⟨b, off, rfl, hc⟩ := hp hn
  exact ⟨b, off, rfl, fun j u hu => (World.cell?_of_block (h b ⟨hn, rfl⟩)).trans (hc j u hu)⟩⟩
theorem RowAt.row {w : World} {A : Option Addr} {vs : List Value} (h : RowAt w A vs) : Row w w.heap.size A vs := fun hn => by
  obtain ⟨b, off, rfl, hc⟩ := h hn
  refine ⟨b, off, rfl, ?_, hc⟩
  rcases vs with _ | ⟨u, r⟩
  · exact absurd rfl hn
  · exact cell_lt (hc 0 u rfl)
theorem Row.rowAt {w : World} {B : Nat} {A : Option Addr} {vs : List Value} (h : Row w B A vs) : RowAt w A vs := fun hn => by
  obtain ⟨b, off, e, _, hc⟩ := h hn
  exact ⟨b, off, e, hc⟩

/-- From w0 to w: only blocks of F0 and new ones have turned; the things cs lie apart from one another, each in blocks of F0 or new ones; what bs lies apart from them (it is only read). -/
structure Sep (w0 : World) (F0 : Nat → Prop) (cs bs : List Ch) (w : World) : Prop where
  tch : Tch F0 w0 w
  at_ : ∀ (i : Nat) c, cs[i]? = some c → c.P w ∧ ∀ x, c.F x → x < w.heap.size ∧ (F0 x ∨ w0.heap.size ≤ x)
  dis : ∀ (i j : Nat) ci cj, cs[i]? = some ci → cs[j]? = some cj → i ≠ j → ∀ x, ci.F x → cj.F x → False
  bat : ∀ (i : Nat) b, bs[i]? = some b → b.P w ∧ ∀ x, b.F x → x < w.heap.size
  bdis : ∀ (i j : Nat) c b, cs[i]? = some c → bs[j]? = some b → ∀ x, c.F x → b.F x → False

/-- c has turned into c', and nothing else but new blocks. -/
structure Upd (c : Ch) (w : World) (c' : Ch) (w' : World) : Prop where
  tch : Tch c.F w w'
  post : c'.P w'
  foot : ∀ x, c'.F x → (c.F x ∨ w.heap.size ≤ x) ∧ x < w'.heap.size
/-- A new thing has come, nothing has turned. -/
structure New (w : World) (c' : Ch) (w' : World) : Prop where
  bel : Below w.heap.size w w'
  post : c'.P w'
  foot : ∀ x, c'.F x → w.heap.size ≤ x ∧ x < w'.heap.size
theorem Upd.refl {c : Ch} {w : World} (h : c.P w) (hf : ∀ x, c.F x → x < w.heap.size) : Upd c w c w := ⟨Tch.refl _ _, h, fun x hx => ⟨.inl hx, hf x hx⟩⟩
theorem Upd.trans {c c' c'' : Ch} {w w' w'' : World} (h : Upd c w c' w') (h' : Upd c' w' c'' w'') : Upd c w c'' w'' :=
  ⟨h.tch.then_ h'.tch (fun k hk e => (h.foot k e).1.resolve_right (by omega)), h'.post, fun x hx => ⟨by
    rcases (h'.foot x hx).1 with h1 | h1
    · exact (h.foot x h1).1
    · exact .inr (Nat.le_trans h.tch.size h1), (h'.foot x hx).2⟩⟩
theorem Upd.below {c c' : Ch} {w w' w'' : World} (h : Upd c w c' w') (hb : Below w'.heap.size w' w'') : Upd c w c' w'' :=
  ⟨h.tch.trans (Tch.of_below hb _), c'.loc _ _ (fun x hx => hb.block x (h.foot x hx).2) h.post, fun x hx => ⟨(h.foot x hx).1, Nat.lt_of_lt_of_le (h.foot x hx).2 hb.size⟩⟩
theorem New.hold (w : World) (t : TypeId) (cs : Array Value) : New w (HoldC w.heap.size t cs) (w.alloc (.cells cs t)) :=
  ⟨below_new w _, Holds.new w t cs, fun x hx => by
    have : x = w.heap.size := hx
    subst this
    simp⟩
theorem New.own {w w' : World} {e : TypeId} {v : Value} {n : Nat} {xs : List Value} (hb : Below w.heap.size w w') (h : w'.ownsRow w.heap.size e 1 v n xs) : New w (OwnC e v n xs) w' :=
  ⟨hb, by
    refine ⟨h.1, ?_⟩
    rcases h.2 with h1 | ⟨g, cap, cur, rfl, hb, r⟩
    · exact .inl h1
    · exact .inr ⟨g, cap, cur, rfl, Nat.zero_le _, r⟩, fun x hx => by
    rcases h.2 with ⟨rfl, _⟩ | ⟨g, cap, cur, rfl, hb, hg, r⟩
    · simp [OwnC, Value.ownBlock] at hx
    · simp [OwnC, Value.ownBlock] at hx
      subst hx
      exact ⟨hb, (Array.getElem?_eq_some_iff.1 hg).1⟩⟩

section
variable {w0 w w' : World} {F0 : Nat → Prop} {cs bs : List Ch}
theorem Sep.start {w : World} {c : Ch} (h : c.P w) (hf : ∀ x, c.F x → x < w.heap.size) : Sep w c.F [c] [] w :=
  ⟨Tch.refl _ _, fun i d e => by
    cases i with
    | zero => simp at e; subst e; exact ⟨h, fun x hx => ⟨hf x hx, .inl hx⟩⟩
    | succ i => simp at e, fun i j ci cj h1 h2 hne => by
    cases i <;> cases j <;> simp at h1 h2 hne, fun i b e => by simp at e, fun i j c b _ e => by simp at e⟩
theorem Sep.empty (w : World) (F : Nat → Prop) : Sep w F [] [] w := ⟨Tch.refl _ _, fun i c e => by simp at e, fun i j ci cj e => by simp at e, fun i b e => by simp at e, fun i j c b e => by simp at e⟩
/-- New blocks alone. -/
theorem Sep.up (h : Sep w0 F0 cs bs w) (hb : Below w.heap.size w w') : Sep w0 F0 cs bs w' :=
  ⟨h.tch.trans (Tch.of_below hb _), fun i c e => ⟨c.loc _ _ (fun x hx => hb.block x ((h.at_ i c e).2 x hx).1) (h.at_ i c e).1, fun x hx => ⟨Nat.lt_of_lt_of_le ((h.at_ i c e).2 x hx).1 hb.size, ((h.at_ i c e).2 x hx).2⟩⟩, h.dis,
    fun i b e => ⟨b.loc _ _ (fun x hx => hb.block x ((h.bat i b e).2 x hx)) (h.bat i b e).1, fun x hx => Nat.lt_of_lt_of_le ((h.bat i b e).2 x hx) hb.size⟩, h.bdis⟩
/-- One thing turns. -/
theorem Sep.upd (h : Sep w0 F0 cs bs w) {i : Nat} {c c' : Ch} (hi : cs[i]? = some c) (hu : Upd c w c' w') : Sep w0 F0 (cs.set i c') bs w' := by
  have hs := h.tch.size
  have keep : ∀ (j : Nat) d, cs[j]? = some d → j ≠ i → ∀ x, d.F x → w'.heap[x]? = w.heap[x]? := fun j d e hj x hx =>
    hu.tch.block x ((h.at_ j d e).2 x hx).1 (fun hc => h.dis j i d c e hi hj x hx hc)
  have hset : ∀ (j : Nat) d, (cs.set i c')[j]? = some d → (j = i ∧ d = c') ∨ (j ≠ i ∧ cs[j]? = some d) := fun j d e => by
    rw [List.getElem?_set] at e
    by_cases hj : i = j
    · subst hj
      have hlt : i < cs.length := (List.getElem?_eq_some_iff.1 hi).1
      rw [if_pos rfl, if_pos hlt] at e
      exact .inl ⟨rfl, (Option.some.inj e).symm⟩
    · rw [if_neg hj] at e
      exact .inr ⟨fun e => hj e.symm, e⟩
  refine ⟨h.tch.then_ hu.tch (fun k hk e => ((h.at_ i c hi).2 k e).2.resolve_right (by omega)), fun j d e => ?_, fun j k dj dk e1 e2 hne x h1 h2 => ?_, fun j b e => ?_, fun j k d b e1 e2 x h1 h2 => ?_⟩
  · rcases hset j d e with ⟨rfl, rfl⟩ | ⟨hj, e⟩
    · refine ⟨hu.post, fun x hx => ⟨(hu.foot x hx).2, ?_⟩⟩
      rcases (hu.foot x hx).1 with h1 | h1
      · exact ((h.at_ _ c hi).2 x h1).2
      · exact .inr (Nat.le_trans hs h1)
    · exact ⟨d.loc _ _ (keep j d e hj) (h.at_ j d e).1, fun x hx => ⟨Nat.lt_of_lt_of_le ((h.at_ j d e).2 x hx).1 hu.tch.size, ((h.at_ j d e).2 x hx).2⟩⟩
  · rcases hset j dj e1 with ⟨rfl, rfl⟩ | ⟨hj, e1'⟩ <;> rcases hset k dk e2 with ⟨rfl, rfl⟩ | ⟨hk, e2'⟩
    · exact hne rfl
    · rcases (hu.foot x h1).1 with h3 | h3
      · exact h.dis _ k c dk hi e2' hne x h3 h2
      · have := ((h.at_ k dk e2').2 x h2).1
        omega
    · rcases (hu.foot x h2).1 with h3 | h3
      · exact h.dis j _ dj c e1' hi hj x h1 h3
      · have := ((h.at_ j dj e1').2 x h1).1
        omega
    · exact h.dis j k dj dk e1' e2' hne x h1 h2
  · exact ⟨b.loc _ _ (fun x hx => hu.tch.block x ((h.bat j b e).2 x hx) (fun hc => h.bdis i j c b hi e x hc hx)) (h.bat j b e).1, fun x hx => Nat.lt_of_lt_of_le ((h.bat j b e).2 x hx) hu.tch.size⟩
  · rcases hset j d e1 with ⟨rfl, rfl⟩ | ⟨hj, e1⟩
    · rcases (hu.foot x h1).1 with h3 | h3
      · exact h.bdis _ k c b hi e2 x h3 h2
      · have := (h.bat k b e2).2 x h2
        omega
    · exact h.bdis j k d b e1 e2 x h1 h2
/-- A new thing. -/
theorem Sep.new (h : Sep w0 F0 cs bs w) {c' : Ch} (hn : New w c' w') : Sep w0 F0 (c' :: cs) bs w' := by
  have hu := h.up hn.bel
  have hs := h.tch.size
  refine ⟨hu.tch, fun i c e => ?_, fun i j ci cj e1 e2 hne x h1 h2 => ?_, hu.bat, fun i j c b e1 e2 x h1 h2 => ?_⟩
  · cases i with
    | zero => simp at e; subst e; exact ⟨hn.post, fun x hx => ⟨(hn.foot x hx).2, .inr (Nat.le_trans hs (hn.foot x hx).1)⟩⟩
    | succ i => exact hu.at_ i c (by simpa using e)
  · cases i with
    | zero =>
      cases j with
      | zero => exact hne rfl
      | succ j =>
        simp at e1 e2
        subst e1
        have a1 := (hn.foot x h1).1
        have a2 := ((h.at_ j cj e2).2 x h2).1
        omega
    | succ i =>
      cases j with
      | zero =>
        simp at e1 e2
        subst e2
        have a1 := (hn.foot x h2).1
        have a2 := ((h.at_ i ci e1).2 x h1).1
        omega
      | succ j => exact h.dis i j ci cj (by simpa using e1) (by simpa using e2) (by omega) x h1 h2
  · cases i with
    | zero =>
      simp at e1
      subst e1
      have a1 := (hn.foot x h1).1
      have a2 := (h.bat j b e2).2 x h2
      omega
    | succ i => exact h.bdis i j c b (by simpa using e1) e2 x h1 h2
/-- What is only read, laid beside. -/
theorem Sep.lend (h : Sep w0 F0 cs bs w) {b : Ch} (hp : b.P w) (hf : ∀ x, b.F x → x < w.heap.size) (hd : ∀ (i : Nat) c, cs[i]? = some c → ∀ x, c.F x → b.F x → False) : Sep w0 F0 cs (b :: bs) w :=
  ⟨h.tch, h.at_, h.dis, fun i c e => by
    cases i with
    | zero => simp at e; subst e; exact ⟨hp, hf⟩
    | succ i => exact h.bat i c (by simpa using e), fun i j c d e1 e2 => by
    cases j with
    | zero => simp at e2; subst e2; exact hd i c e1
    | succ j => exact h.bdis i j c d e1 (by simpa using e2)⟩
/-- Some of the things, in another order. -/
theorem Sep.pick (h : Sep w0 F0 cs bs w) (is : List Nat) {cs' : List Ch} (hn : is.Nodup) (hl : is.length = cs'.length) (hg : ∀ (k : Nat) i, is[k]? = some i → cs[i]? = cs'[k]?) : Sep w0 F0 cs' bs w := by
  have hat : ∀ (k : Nat) c, cs'[k]? = some c → ∃ i, is[k]? = some i ∧ cs[i]? = some c := fun k c e => by
    have hk : k < is.length := by rw [hl]; exact (List.getElem?_eq_some_iff.1 e).1
    exact ⟨is[k], List.getElem?_eq_getElem hk, by rw [hg k _ (List.getElem?_eq_getElem hk)]; exact e⟩
  refine ⟨h.tch, fun k c e => ?_, fun k j ci cj e1 e2 hne x h1 h2 => ?_, h.bat, fun k j c b e1 e2 => ?_⟩
  · obtain ⟨i, _, e⟩ := hat k c e
    exact h.at_ i c e
  · obtain ⟨a, ha, e1⟩ := hat k ci e1
    obtain ⟨b, hb, e2⟩ := hat j cj e2
    refine h.dis a b ci cj e1 e2 (fun e => hne ?_) x h1 h2
    subst e
    obtain ⟨l1, q1⟩ := List.getElem?_eq_some_iff.1 ha
    obtain ⟨l2, q2⟩ := List.getElem?_eq_some_iff.1 hb
    rcases Nat.lt_trichotomy k j with h1 | h1 | h1
    · exact absurd (q1.trans q2.symm) (List.pairwise_iff_getElem.1 hn k j l1 l2 h1)
    · exact h1
    · exact absurd (q2.trans q1.symm) (List.pairwise_iff_getElem.1 hn j k l2 l1 h1)
  · obtain ⟨i, _, e⟩ := hat k c e1
    exact h.bdis i j c b e e2
theorem Sep.get (h : Sep w0 F0 cs bs w) (i : Nat) {c : Ch} (hi : cs[i]? = some c) : c.P w := (h.at_ i c hi).1
theorem Sep.lt (h : Sep w0 F0 cs bs w) (i : Nat) {c : Ch} (hi : cs[i]? = some c) : ∀ x, c.F x → x < w.heap.size := fun x hx => ((h.at_ i c hi).2 x hx).1
theorem Sep.size (h : Sep w0 F0 cs bs w) : w0.heap.size ≤ w.heap.size := h.tch.size
/-- What a function hands back of one thing that it was given. -/
theorem Sep.done (h : Sep w0 F0 cs bs w) {c c' : Ch} (hF : c.F = F0) (i : Nat) (hi : cs[i]? = some c') : Upd c w0 c' w :=
  ⟨hF ▸ h.tch, h.get i hi, fun x hx => ⟨by rw [hF]; exact ((h.at_ i c' hi).2 x hx).2, h.lt i hi x hx⟩⟩
theorem Sep.fact (h : Sep w0 F0 cs bs w) (i j : Nat) {g : Nat} {t : TypeId} {vs : Array Value} {v : Value} (hi : cs[i]? = some (HoldC g t vs)) (hv : vs[j]? = some v) : g < w.heap.size ∧ w.cell? ⟨g, j, none⟩ = some v := by
  have hh : Holds w g t vs := h.get i hi
  exact ⟨hh.lt, by rw [hh.cell]; exact hv⟩
theorem Sep.hold (h : Sep w0 F0 cs bs w) (i : Nat) {g : Nat} {t : TypeId} {vs : Array Value} (hi : cs[i]? = some (HoldC g t vs)) : Holds w g t vs := h.get i hi
/-- A cell is stored. -/
theorem Upd.store {w : World} {g : Nat} {t : TypeId} {vs : Array Value} (h : Holds w g t vs) (i : Nat) (u : Value) : Upd (HoldC g t vs) w (HoldC g t (vs.setIfInBounds i u)) (w.setCell ⟨g, i, none⟩ u) :=
  ⟨Tch.store (F := (HoldC g t vs).F) w (p := ⟨g, i, none⟩) rfl u, h.store i u, fun x hx => ⟨.inl hx, by
    have : x = g := hx
    subst this
    exact (h.store i u).lt⟩⟩
end
end Go.Proofs.YtelglbblgkhcmaaGreat
