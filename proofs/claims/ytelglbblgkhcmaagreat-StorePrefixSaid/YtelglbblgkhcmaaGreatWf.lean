/-
  Package wal, plain: what crashes keep; what operations leave; a log that stands.
-/
import Derived.Test.YtelglbblgkhcmaaGreatWe
namespace Go.Proofs.YtelglbblgkhcmaaGreat
open Go.RowKit Go.Deep

def Lens (X : Int → List UInt8) (s : Nat) : Prop := ∀ i, (X i).length = s
/-- F lies in the sectors from base on. -/
def PreP (X : Int → List UInt8) (base s : Nat) (F : List UInt8) : Prop := ∀ p, p < F.length → (X ((base + p / s : Nat) : Int))[p % s]? = F[p]?
def upd (X : Int → List UInt8) (i : Int) (l : List UInt8) : Int → List UInt8 := fun j => if j = i then l else X j
theorem upd_at (X : Int → List UInt8) (i : Int) (l : List UInt8) : upd X i l i = l := by simp [upd]
theorem upd_other {X : Int → List UInt8} {i j : Int} {l : List UInt8} (h : j ≠ i) : upd X i l j = X j := by simp [upd, h]
theorem lens_upd {X : Int → List UInt8} {s : Nat} (h : Lens X s) {i : Int} {l : List UInt8} (hl : l.length = s) : Lens (upd X i l) s := fun j => by
  by_cases e : j = i
  · subst e; rw [upd_at]; exact hl
  · rw [upd_other e]; exact h j
theorem secsF_at {X : Int → List UInt8} {s : Nat} (h : Lens X s) (hs : 0 < s) (base : Nat) : ∀ (k p : Nat), p < k * s → (secsF X base k)[p]? = (X ((base + p / s : Nat) : Int))[p % s]?
  | 0, p, hp => by omega
  | k + 1, p, hp => by
    have hl := secsF_length X base k s h
    rw [secsF_succ]
    rcases Nat.lt_or_ge p (k * s) with h1 | h1
    · rw [List.getElem?_append_left (by omega), secsF_at h hs base k p h1]
    · have hp2 : p < k * s + s := by rw [Nat.succ_mul] at hp; exact hp
      have e1 : p / s = k := by
        rw [Nat.div_eq_iff hs]
        rw [Nat.mul_comm] at h1 hp2 ⊢
        omega
      have e2 : p % s = p - k * s := by
        have := Nat.div_add_mod p s
        rw [e1, Nat.mul_comm] at this
        omega
      rw [List.getElem?_append_right (by omega), hl, e1, e2]
theorem PreP.take {X : Int → List UInt8} {base s : Nat} {F : List UInt8} (h : PreP X base s F) (hL : Lens X s) (hs : 0 < s) {k : Nat} (hk : F.length ≤ k * s) : (secsF X base k).take F.length = F := by
  apply List.ext_getElem?
  intro p
  rw [List.getElem?_take]
  split
  · rename_i hp
    rw [secsF_at hL hs base k p (by omega)]
    exact h p hp
  · rename_i hp
    rw [List.getElem?_eq_none (by omega)]
/-- A log's records are on a disk, whose header is h, in slot. -/
structure Good (X : Int → List UInt8) (n s : Nat) (h : Hdr) (slot : Nat) (all : List (List UInt8)) : Prop where
  lens : Lens X s
  pre : PreP X (2 + h.area * half n) s (framesF all)
  used : h.used = (framesF all).length
  count : h.count = all.length
  short : shortOnes all
  area : h.area ≤ 1
  fits : h.used ≤ half n * s
  two : slot ≤ 2
  nil_ : slot = 2 → h = zeroH ∧ all = []
  cur : slot < 2 → parseF (X (slot : Nat)) n s = some h
  oth : ∀ k : Nat, k < 2 → k ≠ slot → ∀ h', parseF (X (k : Nat)) n s = some h' → h'.serial < h.serial
section
variable {X : Int → List UInt8} {n s slot : Nat} {h : Hdr} {all : List (List UInt8)}
theorem found_two (X : Int → List UInt8) (n s : Nat) : foundF X n s 2 = (match parseF (X ((0 : Nat) : Int)) n s with | some h => [(h, 0)] | none => []) ++ (match parseF (X ((1 : Nat) : Int)) n s with | some h => [(h, 1)] | none => []) := by
  show ([] ++ _) ++ _ = _
  rw [List.nil_append]
  rfl
theorem Good.open (g : Good X n s h slot all) (hs : 0 < s) : openF X n s = ((h, slot), all) := by
  have hun : unframeF ((areaF X n h.area).take h.used) h.count = some all := by
    unfold areaF
    rw [g.used, g.pre.take g.lens hs (by rw [← g.used]; exact g.fits), g.count]
    exact unframe_frames all g.short
  have hp : ∀ t, pickF X n ((h, slot) :: t) = some ((h, slot), all) := fun t => by
    unfold pickF
    rw [hun]
  have h2 := g.two
  have e : slot = 0 ∨ slot = 1 ∨ slot = 2 := by omega
  rcases e with e | e | e
  · subst e
    have h0 := g.cur (by omega)
    unfold openF headersF
    rw [found_two, h0]
    cases h1 : parseF (X ((1 : Nat) : Int)) n s with
    | none => rw [show orderF ([(h, 0)] ++ []) = [(h, 0)] from rfl, hp]; rfl
    | some y =>
      have := g.oth 1 (by omega) (by omega) y h1
      rw [show orderF ([(h, 0)] ++ [(y, 1)]) = [(h, 0), (y, 1)] from if_neg (by simp; omega), hp]
      rfl
  · subst e
    have h1 := g.cur (by omega)
    unfold openF headersF
    rw [found_two, h1]
    cases h0 : parseF (X ((0 : Nat) : Int)) n s with
    | none => rw [show orderF ([] ++ [(h, 1)]) = [(h, 1)] from rfl, hp]; rfl
    | some y =>
      have := g.oth 0 (by omega) (by omega) y h0
      rw [show orderF ([(y, 0)] ++ [(h, 1)]) = [(h, 1), (y, 0)] from if_pos (by simpa using this), hp]
      rfl
  · obtain ⟨rfl, rfl⟩ := g.nil_ e
    subst e
    have hn : ∀ k : Nat, k < 2 → parseF (X (k : Nat)) n s = none := fun k hk => by
      cases hx : parseF (X (k : Nat)) n s with
      | none => rfl
      | some y => have := g.oth k hk (by omega) y hx; simp [zeroH] at this
    unfold openF headersF
    rw [found_two, hn 0 (by omega), hn 1 (by omega)]
    rfl
/-- A sector of an area is written: what counts stays as it is. -/
theorem Good.area_upd (g : Good X n s h slot all) {sec : Nat} {l : List UInt8} (h2 : 2 ≤ sec) (hl : l.length = s) (hp : ∀ p, p < (framesF all).length → 2 + h.area * half n + p / s = sec → l[p % s]? = (framesF all)[p]?) : Good (upd X (sec : Nat) l) n s h slot all := by
  have hx : ∀ k : Nat, k < 2 → upd X (sec : Nat) l (k : Nat) = X (k : Nat) := fun k hk => upd_other (by omega)
  refine ⟨lens_upd g.lens hl, fun p hpl => ?_, g.used, g.count, g.short, g.area, g.fits, g.two, g.nil_, fun hs => by rw [hx _ hs]; exact g.cur hs, fun k hk hne h' e => g.oth k hk hne h' (by rw [← hx k hk]; exact e)⟩
  by_cases e : 2 + h.area * half n + p / s = sec
  · rw [e, upd_at]
    exact hp p hpl e
  · rw [upd_other (by omega)]
    exact g.pre p hpl
theorem prep_slot {base : Nat} {F : List UInt8} (h : PreP X base s F) {k : Nat} (hk : k < base) (l : List UInt8) : PreP (upd X (k : Nat) l) base s F := fun p hp => by
  rw [upd_other (by generalize p / s = t; omega)]
  exact h p hp
/-- A slot that does not count is written. -/
theorem Good.slot_upd (g : Good X n s h slot all) {k : Nat} {l : List UInt8} (_hk : k < 2) (hne : k ≠ slot) (hl : l.length = s) (hp : ∀ h', parseF l n s = some h' → h'.serial < h.serial) : Good (upd X (k : Nat) l) n s h slot all := by
  refine ⟨lens_upd g.lens hl, prep_slot g.pre (by omega) l, g.used, g.count, g.short, g.area, g.fits, g.two, g.nil_, fun hs => by rw [upd_other (by omega)]; exact g.cur hs, fun j hj hn h' e => ?_⟩
  by_cases e2 : j = k
  · subst e2
    rw [upd_at] at e
    exact hp h' e
  · rw [upd_other (by omega)] at e
    exact g.oth j hj hn h' e
/-- A new header is written into the slot that does not count. -/
theorem Good.publish (g : Good X n s h slot all) (hn : n ≤ 4096) (hs : 128 ≤ s) (hs2 : s ≤ 4096) {h1 : Hdr} {next : List (List UInt8)} (hser : h.serial < h1.serial) (hser2 : h1.serial ≤ 4611686018427387904) (ha : h1.area ≤ 1) (hu : h1.used = (framesF next).length) (hf : h1.used ≤ half n * s) (hc : h1.count = next.length) (hsh : shortOnes next) (hpre : PreP X (2 + h1.area * half n) s (framesF next)) :
    Good (upd X (pubSlot slot : Nat) (hbytes h1 n s)) n s h1 (pubSlot slot) next := by
  have h8 : next.length * 8 ≤ (framesF next).length := by
    clear hpre hsh hc hf hu
    induction next with
    | nil => simp
    | cons a t ih =>
      rw [show framesF (a :: t) = frameOf a ++ framesF t from by simp [framesF], List.length_append, frameOf_length, List.length_cons, Nat.succ_mul]
      omega
  have hk : pubSlot slot < 2 := by unfold pubSlot; split <;> omega
  have hok : h1.ok n s := ⟨by omega, hser2, ha, hf, by rw [hc, hu]; omega⟩
  have hne : pubSlot slot ≠ slot := by unfold pubSlot; split <;> omega
  refine ⟨lens_upd g.lens (hbytes_length h1 n s hs), prep_slot hpre (by omega) _, hu, hc, hsh, ha, hf, by omega, fun e => by omega, fun _ => by rw [upd_at]; exact parse_hbytes h1 n s hn hs hs2 hok, fun j hj hnj h' e => ?_⟩
  rw [upd_other (by omega)] at e
  by_cases e2 : j = slot
  · subst e2
    rw [g.cur hj] at e
    injection e with e
    rw [← e]
    exact hser
  · have := g.oth j hj e2 h' e
    omega
end
/-- A sector of which the first a bytes were written. -/
def tornB (l o : List UInt8) (a : Nat) : List UInt8 := l.take a ++ o.drop a
theorem tornB_at {l o : List UInt8} (h : l.length = o.length) (a i : Nat) : (tornB l o a)[i]? = if i < a then l[i]? else o[i]? := by
  unfold tornB
  by_cases e : i < a
  · rw [if_pos e]
    rcases Nat.lt_or_ge i l.length with h1 | h1
    · rw [List.getElem?_append_left (by rw [List.length_take]; omega), List.getElem?_take, if_pos e]
    · rw [List.getElem?_eq_none h1, List.getElem?_eq_none (by rw [List.length_append, List.length_take, List.length_drop]; omega)]
  · rw [if_neg e]
    rcases Nat.lt_or_ge i l.length with h1 | h1
    · rw [List.getElem?_append_right (by rw [List.length_take]; omega), List.length_take, List.getElem?_drop]
      congr 1
      omega
    · rw [List.getElem?_eq_none (by omega : o.length ≤ i), List.getElem?_eq_none (by rw [List.length_append, List.length_take, List.length_drop]; omega)]
theorem tornB_length {l o : List UInt8} (h : l.length = o.length) (a : Nat) : (tornB l o a).length = o.length := by
  unfold tornB
  rw [List.length_append, List.length_take, List.length_drop]
  omega
/-- What a crash may leave: of each sector what is sure, or what was written, or a part of it. -/
def Mix (d : AD) (X : Int → List UInt8) : Prop := ∀ i, X i = d.safe i ∨ d.wr i = some (X i) ∨ ∃ l a, d.wr i = some l ∧ X i = tornB l (d.safe i) a
def AllMix (d : AD) (P : (Int → List UInt8) → Prop) : Prop := ∀ X, Mix d X → P X
section
variable {d : AD} {P : (Int → List UInt8) → Prop} {i : Int} {l : List UInt8}
theorem Mix.last (d : AD) : Mix d d.last := fun i => by
  unfold AD.last
  cases d.wr i with
  | none => exact .inl rfl
  | some l => exact .inr (.inl rfl)
theorem powered_eq (d : AD) : d.powered.safe = d.safe ∧ d.powered.wr = d.wr ∧ d.powered.last = d.last ∧ d.powered.n = d.n ∧ d.powered.size = d.size := by
  unfold AD.powered AD.last
  split
  · split <;> exact ⟨rfl, rfl, rfl, rfl, rfl⟩
  · exact ⟨rfl, rfl, rfl, rfl, rfl⟩
theorem AllMix.powered (h : AllMix d P) : AllMix d.powered P := fun X hX => h X (fun i => by
  have := hX i
  rw [(powered_eq d).1, (powered_eq d).2.1] at this
  exact this)
theorem AllMix.wrote (h : AllMix d P) (hS : ∀ X, P X → P (upd X i l)) (hT : ∀ X a, P X → P (upd X i (tornB l (X i) a))) : AllMix (d.wrote i l) P := fun X hX => by
  have hj : ∀ j, j ≠ i → X j = d.safe j ∨ d.wr j = some (X j) ∨ ∃ l a, d.wr j = some l ∧ X j = tornB l (d.safe j) a := fun j e => by
    have := hX j
    simp only [AD.wrote, if_neg e] at this
    exact this
  have hY : Mix d (upd X i (d.safe i)) := fun j => by
    by_cases e2 : j = i
    · subst e2; rw [upd_at]; exact .inl rfl
    · rw [upd_other e2]; exact hj j e2
  have e3 : ∀ m, m = X i → upd (upd X i (d.safe i)) i m = X := fun m e => by
    funext j
    by_cases e2 : j = i
    · subst e2; rw [upd_at]; exact e
    · rw [upd_other e2, upd_other e2]
  have hwi : (d.wrote i l).wr i = some l := if_pos rfl
  rcases hX i with e | e | ⟨l', a, e1, e⟩
  · exact h X (fun j => by
      by_cases e2 : j = i
      · subst e2; exact .inl e
      · exact hj j e2)
  · rw [hwi] at e
    have := hS _ (h _ hY)
    rw [e3 l (Option.some.inj e)] at this
    exact this
  · rw [hwi] at e1
    obtain rfl := Option.some.inj e1
    have := hT _ a (h _ hY)
    have e4 : tornB l (d.safe i) a = X i := e.symm
    rw [upd_at, e3 _ e4] at this
    exact this
theorem wrote_last (d : AD) (i : Int) (l : List UInt8) : (d.wrote i l).last = upd d.last i l := by
  funext j
  unfold AD.last AD.wrote upd
  by_cases e : j = i <;> simp [e]
/-- A write, as seen by a property that it keeps. -/
theorem write_mix (hd : d.dead = false) (h : AllMix d P) (hS : ∀ X, P X → P (upd X i l)) (hT : ∀ X a, P X → P (upd X i (tornB l (X i) a))) :
    AllMix (d.write i l).1 P ∧ ((d.write i l).2 ≠ 0 → (d.write i l).2 = 32 ∧ (d.write i l).1.dead = true) ∧ ((d.write i l).2 = 0 → (d.write i l).1.last = upd d.last i l) := by
  unfold AD.write
  rw [if_neg (by simp [hd])]
  by_cases e : d.powered.dead = true
  · rw [if_pos e]
    exact ⟨h.powered, fun _ => ⟨rfl, e⟩, fun h => by cases h⟩
  · rw [if_neg e]
    exact ⟨h.powered.wrote hS hT, fun h => absurd rfl h, fun _ => by rw [wrote_last, (powered_eq d).2.2.1]⟩
theorem flush_mix (hd : d.dead = false) (h : AllMix d P) :
    AllMix d.flush.1 P ∧ (d.flush.2 ≠ 0 → d.flush.2 = 32 ∧ d.flush.1.dead = true) ∧ (d.flush.2 = 0 → d.flush.1.last = d.last ∧ d.flush.1.safe = d.last ∧ d.flush.1.wr = fun _ => none) := by
  unfold AD.flush
  rw [if_neg (by simp [hd])]
  by_cases e : d.powered.dead = true
  · rw [if_pos e]
    exact ⟨h.powered, fun _ => ⟨rfl, e⟩, fun h => by cases h⟩
  · rw [if_neg e]
    have e3 := (powered_eq d).2.2.1
    refine ⟨fun X hX => ?_, fun h => absurd rfl h, fun _ => ⟨?_, ?_, rfl⟩⟩
    · have : X = d.last := by
        funext j
        rcases hX j with e | e | ⟨_, _, e, _⟩
        · rw [e]; show d.powered.last j = _; rw [e3]
        · cases e
        · cases e
      rw [this]
      exact h _ (Mix.last d)
    · funext j
      show d.powered.last j = _
      rw [e3]
    · show d.powered.last = _
      exact e3
end
end Go.Proofs.YtelglbblgkhcmaaGreat
namespace Go.Proofs.YtelglbblgkhcmaaGreat
open Go.RowKit Go.Deep

/-- Bytes are laid behind W, which lies from base on: a property that sectors of the area keep is kept. -/
theorem fillA_mix {P : (Int → List UInt8) → Prop} {base m s : Nat} {Fu : List UInt8} (hs : 0 < s) (hPL : ∀ X, P X → Lens X s) (hPF : ∀ X, P X → PreP X base s Fu)
    (hP : ∀ X (sec : Nat) l, P X → base ≤ sec → sec < base + m → l.length = s → (∀ p, p < Fu.length → base + p / s = sec → l[p % s]? = Fu[p]?) → P (upd X (sec : Nat) l)) :
    ∀ (f : Nat) (d : AD) (sec at_ : Nat) (b W : List UInt8), d.dead = false → d.size = s → AllMix d P → base ≤ sec → at_ < s → W.length = (sec - base) * s + at_ → W.length + b.length ≤ m * s → PreP d.last base s W → (∀ p, p < Fu.length → p < W.length ∧ W[p]? = Fu[p]?) → b.length ≤ f →
      AllMix (fillA f d sec at_ b).1 P ∧ ((fillA f d sec at_ b).2 ≠ 0 → (fillA f d sec at_ b).2 = 32 ∧ (fillA f d sec at_ b).1.dead = true) ∧ ((fillA f d sec at_ b).2 = 0 → PreP (fillA f d sec at_ b).1.last base s (W ++ b) ∧ ∀ i : Int, i < base → (fillA f d sec at_ b).1.last i = d.last i)
  | 0, d, sec, at_, b, W, hd, hsz, hA, hb, hat, hW, hfit, hpre, hF, hf => by
    have hb0 : b = [] := List.length_eq_zero_iff.1 (by omega)
    subst hb0
    unfold fillA
    exact ⟨hA, fun h => absurd rfl h, fun _ => ⟨by rw [List.append_nil]; exact hpre, fun _ _ => rfl⟩⟩
  | f + 1, d, sec, at_, b, W, hd, hsz, hA, hb, hat, hW, hfit, hpre, hF, hf => by
    unfold fillA
    by_cases hb0 : b = []
    · rw [if_pos hb0]
      subst hb0
      exact ⟨hA, fun h => absurd rfl h, fun _ => ⟨by rw [List.append_nil]; exact hpre, fun _ _ => rfl⟩⟩
    rw [if_neg hb0, hsz]
    have hbl : 0 < b.length := List.length_pos_iff.2 hb0
    have hLs : (d.last sec).length = s := hPL _ (hA _ (Mix.last d)) _
    obtain ⟨nw, hnw⟩ : ∃ x, x = splice (d.last sec) at_ (b.take (s - at_)) := ⟨_, rfl⟩
    rw [← hnw]
    have htl : (b.take (s - at_)).length ≤ s - at_ := by rw [List.length_take]; omega
    have hnl : nw.length = s := by rw [hnw, length_splice _ _ _ (by rw [hLs]; omega), hLs]
    have hsm : sec < base + m := by
      rcases Nat.lt_or_ge sec (base + m) with h | h
      · exact h
      · have : m * s ≤ (sec - base) * s := Nat.mul_le_mul_right s (by omega)
        omega
    have hsp : ∀ k, k < s → nw[k]? = if k < at_ then (d.last sec)[k]? else if k < at_ + (b.take (s - at_)).length then b[k - at_]? else (d.last sec)[k]? := fun k hk => by
      rw [hnw]
      unfold splice
      have h1 : ((d.last sec).take at_).length = at_ := by rw [List.length_take, hLs]; omega
      by_cases e1 : k < at_
      · rw [if_pos e1, List.getElem?_append_left (by omega), List.getElem?_take, if_pos e1]
      · rw [if_neg e1, List.getElem?_append_right (by omega), h1]
        by_cases e2 : k < at_ + (b.take (s - at_)).length
        · rw [if_pos e2, List.getElem?_append_left (by omega), List.getElem?_take, if_pos (by omega)]
        · rw [if_neg e2, List.getElem?_append_right (by omega), List.getElem?_drop]
          congr 1
          omega
    have hdiv : ∀ p, p < W.length → base + p / s = sec → p % s < at_ := fun p hp e => by
      have h1 := Nat.div_add_mod p s
      have h2 : p / s = sec - base := by omega
      rw [h2, Nat.mul_comm] at h1
      omega
    have hkeepF : ∀ p, p < Fu.length → base + p / s = sec → nw[p % s]? = Fu[p]? := fun p hp e => by
      obtain ⟨h1, h2⟩ := hF p hp
      have h3 := hdiv p h1 e
      rw [hsp _ (by omega), if_pos h3, ← h2, ← hpre p h1, e]
    obtain ⟨w1, w2, w3⟩ := write_mix (i := (sec : Int)) (l := nw) hd hA (fun X hX => hP X sec nw hX hb hsm hnl hkeepF)
      (fun X a hX => hP X sec _ hX hb hsm (by rw [tornB_length (by rw [hnl, hPL X hX]), hPL X hX]) (fun p hp e => by
        rw [tornB_at (by rw [hnl, hPL X hX])]
        split
        · exact hkeepF p hp e
        · have := hPF X hX p hp
          rw [e] at this
          exact this))
    by_cases he : (d.write sec nw).2 = 0
    · rw [if_neg (by simpa using he)]
      have hk := AD.write_k he
      have hlast := w3 he
      -- the bytes so far
      have hpre' : PreP (d.write sec nw).1.last base s (W ++ b.take (s - at_)) := fun p hp => by
        rw [hlast]
        rw [List.length_append] at hp
        by_cases e : base + p / s = sec
        · rw [e, upd_at]
          have h1 := Nat.div_add_mod p s
          have h2 : p / s = sec - base := by omega
          rw [h2, Nat.mul_comm] at h1
          have h4 := Nat.mod_lt p hs
          rw [hsp _ h4]
          by_cases e1 : p < W.length
          · rw [if_pos (hdiv p e1 e), List.getElem?_append_left e1, ← hpre p e1, e]
          · rw [if_neg (by omega), if_pos (by omega), List.getElem?_append_right (by omega), List.getElem?_take, if_pos (by omega)]
            congr 1
            omega
        · rw [upd_other (by generalize p / s = t at *; omega)]
          have e1 : p < W.length := by
            rcases Nat.lt_or_ge p W.length with h | h
            · exact h
            · exfalso
              apply e
              have h5 : p / s = sec - base := by
                rw [Nat.div_eq_iff hs]
                have : (sec - base) * s = s * (sec - base) := Nat.mul_comm _ _
                omega
              omega
          rw [List.getElem?_append_left e1]
          exact hpre p e1
      have hlow : ∀ i : Int, i < base → (d.write sec nw).1.last i = d.last i := fun i hi => by rw [hlast]; exact upd_other (by omega)
      by_cases hfull : b.length < s - at_
      · have hdr : b.drop (s - at_) = [] := List.drop_of_length_le (by omega)
        have htk : b.take (s - at_) = b := List.take_of_length_le (by omega)
        rw [htk] at hpre'
        rw [hdr]
        have e0 : fillA f (d.write sec nw).1 (sec + 1) 0 [] = ((d.write sec nw).1, 0) := by cases f <;> simp [fillA]
        rw [e0]
        exact ⟨w1, fun h => absurd rfl h, fun _ => ⟨hpre', hlow⟩⟩
      · have htk : (b.take (s - at_)).length = s - at_ := by rw [List.length_take]; omega
        have hW' : (W ++ b.take (s - at_)).length = (sec + 1 - base) * s + 0 := by
          rw [List.length_append, htk, hW, show sec + 1 - base = (sec - base) + 1 by omega, Nat.succ_mul]
          omega
        have ih := fillA_mix hs hPL hPF hP f (d.write sec nw).1 (sec + 1) 0 (b.drop (s - at_)) (W ++ b.take (s - at_)) hk.dead (hk.size.trans hsz) w1 (by omega) hs hW' (by
          rw [List.length_append, htk, List.length_drop]; omega) hpre' (fun p hp => by
          obtain ⟨h1, h2⟩ := hF p hp
          exact ⟨by rw [List.length_append]; omega, by rw [List.getElem?_append_left h1]; exact h2⟩) (by rw [List.length_drop]; omega)
        rw [List.append_assoc, List.take_append_drop] at ih
        exact ⟨ih.1, ih.2.1, fun h => ⟨(ih.2.2 h).1, fun i hi => ((ih.2.2 h).2 i hi).trans (hlow i hi)⟩⟩
    · rw [if_pos he]
      exact ⟨w1, w2, fun h => absurd h he⟩
theorem hb_magic (h : Hdr) (n s : Nat) (hs : 128 ≤ s) {i : Nat} (hi : i < 8) : (hbytes h n s)[i]? = magicB[i]? := by
  rw [hbytes_eq h n s hs]
  unfold hHead
  rw [List.append_assoc, List.getElem?_append_left (by simpa [magicB] using hi)]
theorem hb_head (h : Hdr) (n s : Nat) (hs : 128 ≤ s) {i : Nat} (hi : i < 8) : (hbytes h n s)[8 + i]? = (be 8 h.serial)[i]? := by
  rw [hbytes_eq h n s hs]
  unfold hHead
  have hm : magicB.length = 8 := rfl
  rw [List.append_assoc, List.getElem?_append_right (by omega), List.append_assoc, List.getElem?_append_left (by rw [be_length]; omega)]
  congr 1
  omega
theorem hb_tail (h : Hdr) (n s : Nat) (hs : 128 ≤ s) {i : Nat} (_hi : i < 8) : (hbytes h n s)[s - 8 + i]? = (be 8 h.serial)[i]? := by
  rw [hbytes_eq h n s hs, List.getElem?_append_right (by rw [hHead_length]; omega), List.getElem?_append_right (by rw [hHead_length, be_length]; omega), List.getElem?_append_right (by rw [hHead_length, be_length, List.length_replicate]; omega)]
  congr 1
  rw [hHead_length, be_length, List.length_replicate]
  omega
theorem be8_ext {a b : Nat} (h : ∀ i, i < 8 → (be 8 a)[i]? = (be 8 b)[i]?) : be 8 a = be 8 b := List.ext_getElem? fun i => by
  rcases Nat.lt_or_ge i 8 with h1 | h1
  · exact h i h1
  · rw [List.getElem?_eq_none (by rw [be_length]; exact h1), List.getElem?_eq_none (by rw [be_length]; exact h1)]
theorem be8_last (a : Nat) : (be 8 a)[7]? = some (UInt8.ofNat (a % 256)) := by
  have e : be 8 a = be 7 (a / 256) ++ [UInt8.ofNat (a % 256)] := rfl
  rw [e, List.getElem?_append_right (by rw [be_length]; omega), be_length]
  rfl
/-- A sector of zeros that was written in part is no header, or what was there. -/
theorem torn_zeros {n s : Nat} (hs : 128 ≤ s) {o : List UInt8} (ho : o.length = s) (a : Nat) : tornB (zerosB s) o a = o ∨ parseF (tornB (zerosB s) o a) n s = none := by
  by_cases e : a = 0
  · subst e; exact .inl rfl
  right
  cases hp : parseF (tornB (zerosB s) o a) n s with
  | none => rfl
  | some h =>
    have h1 := (parseF_some hp).2
    have h2 := hb_magic h n s hs (i := 0) (by omega)
    rw [← h1, tornB_at (by simp [zerosB, ho]), if_pos (by omega)] at h2
    unfold zerosB at h2
    rw [List.getElem?_replicate, if_pos (by omega)] at h2
    exact absurd h2 (by decide)
/-- A header that was written in part, into a slot that was cleaned: it is whole, or what was there, or no header. -/
theorem torn_header {n s ser : Nat} (hs : 128 ≤ s) {H : Hdr} {o : List UInt8} (ho : o.length = s) (hk : keepB ser n s o = true) (hne : lastB o ≠ UInt8.ofNat (H.serial % 256)) (a : Nat) : tornB (hbytes H n s) o a = hbytes H n s ∨ tornB (hbytes H n s) o a = o ∨ parseF (tornB (hbytes H n s) o a) n s = none := by
  have hl : (hbytes H n s).length = o.length := by rw [hbytes_length H n s hs, ho]
  by_cases ha : s ≤ a
  · left
    unfold tornB
    rw [List.take_of_length_le (by omega), List.drop_of_length_le (by omega), List.append_nil]
  right
  cases hp : parseF (tornB (hbytes H n s) o a) n s with
  | none => exact .inr rfl
  | some h =>
    left
    obtain ⟨hok, hM⟩ := parseF_some hp
    have hat := tornB_at hl a
    rw [hM] at hat
    have h1 := hat (s - 1)
    rw [if_neg (by omega), hbytes_last h n s hs] at h1
    have hlo : lastB o = UInt8.ofNat (h.serial % 256) := by
      unfold lastB
      rw [ho, List.getD_eq_getElem?_getD, ← h1]
      rfl
    by_cases h16 : 16 ≤ a
    · exfalso
      have h2 := hat (8 + 7)
      rw [if_pos (by omega), hb_head h n s hs (by omega), hb_head H n s hs (by omega), be8_last, be8_last] at h2
      exact hne (hlo.trans (Option.some.inj h2))
    · have htail : ∀ i, i < 8 → (be 8 h.serial)[i]? = o[s - 8 + i]? := fun i hi => by
        have := hat (s - 8 + i)
        rw [if_neg (by omega), hb_tail h n s hs hi] at this
        exact this
      unfold keepB at hk
      rw [Bool.or_eq_true] at hk
      rcases hk with hk | hk
      · cases hq : parseF o n s with
        | none => rw [hq] at hk; cases hk
        | some h' =>
          have hO := (parseF_some hq).2
          have hb : be 8 h.serial = be 8 h'.serial := be8_ext fun i hi => by
            rw [htail i hi]
            conv => lhs; rw [hO]
            exact hb_tail h' n s hs hi
          rw [hM]
          apply List.ext_getElem?
          intro i
          rw [hat i]
          split
          · rename_i hia
            have hia' := hat i
            rw [if_pos hia] at hia'
            rw [← hia']
            by_cases h8 : i < 8
            · rw [hb_magic h n s hs h8]
              conv => rhs; rw [hO]
              exact (hb_magic h' n s hs h8).symm
            · obtain ⟨j, rfl⟩ : ∃ j, i = 8 + j := ⟨i - 8, by omega⟩
              rw [hb_head h n s hs (by omega), hb]
              conv => rhs; rw [hO]
              exact (hb_head h' n s hs (by omega)).symm
          · rfl
      · exfalso
        have hO : o = zerosB s := of_decide_eq_true hk
        have hb : be 8 h.serial = be 8 0 := be8_ext fun i hi => by
          rw [htail i hi, hO]
          unfold zerosB
          rw [List.getElem?_replicate, if_pos (by omega)]
          have : ∀ i, i < 8 → some (0 : UInt8) = (be 8 0)[i]? := by decide
          exact this i hi
        have h3 := getN_be 8 h.serial
        rw [hb, getN_be] at h3
        have h4 := hok.s0
        have h5 := hok.s1
        omega
/-- Cleaning keeps what counts. -/
theorem cleanF_mix {n s : Nat} (hs : 128 ≤ s) {h : Hdr} {all : List (List UInt8)} (l : LR) : ∀ (f : Nat) (d : AD) (k : Nat) (z : Bool), k + f = 2 → d.dead = false → d.size = s → AllMix d (fun X => Good X n s h l.slot all) →
      AllMix (cleanF l f d k z).1 (fun X => Good X n s h l.slot all) ∧ ((cleanF l f d k z).2 ≠ 0 → (cleanF l f d k z).2 = 32 ∧ (cleanF l f d k z).1.dead = true)
  | 0, d, k, z, _, hd, _, hA => by
    unfold cleanF
    cases z with
    | true => exact ⟨(flush_mix hd hA).1, (flush_mix hd hA).2.1⟩
    | false => exact ⟨hA, fun h => absurd rfl h⟩
  | f + 1, d, k, z, hkf, hd, hsz, hA => by
    unfold cleanF
    by_cases h1 : k = l.slot
    · rw [if_pos h1]
      exact cleanF_mix hs l f d _ z (by omega) hd hsz hA
    rw [if_neg h1]
    by_cases h2 : keepB l.serial d.n d.size (d.last k) = true
    · rw [if_pos h2]
      exact cleanF_mix hs l f d _ z (by omega) hd hsz hA
    rw [if_neg h2, hsz]
    obtain ⟨w1, w2, _⟩ := write_mix (i := (k : Int)) (l := zerosB s) hd hA (fun X hX => hX.slot_upd (by omega) h1 (by simp [zerosB]) (fun h' e => by rw [zerosB, parse_zeros] at e; cases e))
      (fun X a hX => hX.slot_upd (by omega) h1 (by rw [tornB_length (by rw [hX.lens]; simp [zerosB]), hX.lens]) (fun h' e => by
        rcases torn_zeros (n := n) hs (hX.lens k) a with e2 | e2
        · rw [e2] at e; exact hX.oth k (by omega) h1 h' e
        · rw [e2] at e; cases e))
    by_cases h3 : (d.write k (zerosB s)).2 = 0
    · rw [if_neg (by simpa using h3)]
      have hk := AD.write_k h3
      exact cleanF_mix hs l f _ _ true (by omega) hk.dead (hk.size.trans hsz) w1
    · rw [if_pos h3]
      exact ⟨w1, w2⟩
theorem write_last {d : AD} {i : Int} {l : List UInt8} (hd : d.dead = false) (h : (d.write i l).2 = 0) : (d.write i l).1.last = upd d.last i l :=
  (write_mix (P := fun _ => True) hd (fun _ _ => trivial) (fun _ _ => trivial) (fun _ _ _ => trivial)).2.2 h
theorem keepB_zeros (ser n s : Nat) : keepB ser n s (zerosB s) = true := by
  unfold keepB
  rw [Bool.or_eq_true]
  exact .inr (decide_eq_true rfl)
/-- Cleaning leaves slots that are clean. -/
theorem cleanF_kept {n s : Nat} (l : LR) : ∀ (f : Nat) (d : AD) (k : Nat) (z : Bool), k + f = 2 → d.dead = false → d.n = n → d.size = s → (∀ j : Nat, j < k → j ≠ l.slot → keepB l.serial n s (d.last j) = true) → (cleanF l f d k z).2 = 0 → ∀ j : Nat, j < 2 → j ≠ l.slot → keepB l.serial n s ((cleanF l f d k z).1.last j) = true
  | 0, d, k, z, hk, hd, _, _, hA, h0, j, hj, hjs => by
    unfold cleanF at h0 ⊢
    cases z with
    | true =>
      rw [if_pos rfl] at h0 ⊢
      rw [((flush_mix (P := fun _ => True) hd (fun _ _ => trivial)).2.2 h0).1]
      exact hA j (by omega) hjs
    | false => exact hA j (by omega) hjs
  | f + 1, d, k, z, hkf, hd, hn, hsz, hA, h0, j, hj, hjs => by
    unfold cleanF at h0 ⊢
    by_cases h1 : k = l.slot
    · rw [if_pos h1] at h0 ⊢
      exact cleanF_kept l f d _ z (by omega) hd hn hsz (fun i hi his => hA i (by omega) his) h0 j hj hjs
    rw [if_neg h1] at h0 ⊢
    by_cases h2 : keepB l.serial d.n d.size (d.last k) = true
    · rw [if_pos h2] at h0 ⊢
      rw [hn, hsz] at h2
      exact cleanF_kept l f d _ z (by omega) hd hn hsz (fun i hi his => by
        by_cases e : i = k
        · subst e; exact h2
        · exact hA i (by omega) his) h0 j hj hjs
    rw [if_neg h2] at h0 ⊢
    rw [hsz] at h0 ⊢
    by_cases h3 : (d.write k (zerosB s)).2 = 0
    · rw [if_neg (by simpa using h3)] at h0 ⊢
      have hk := AD.write_k h3
      have hl := write_last hd h3
      exact cleanF_kept l f _ _ true (by omega) hk.dead (hk.n.trans hn) (hk.size.trans hsz) (fun i hi his => by
        rw [hl]
        by_cases e : i = k
        · subst e; rw [upd_at]; exact keepB_zeros _ _ _
        · rw [upd_other (by omega)]; exact hA i (by omega) his) h0 j hj hjs
    · rw [if_pos h3] at h0
      exact absurd h0 h3
end Go.Proofs.YtelglbblgkhcmaaGreat
namespace Go.Proofs.YtelglbblgkhcmaaGreat
open Go.RowKit Go.Deep

def LR.hdr (l : LR) : Hdr := ⟨l.serial, l.area, l.used, l.count⟩
structure AD.Same (d d' : AD) : Prop where
  n : d'.n = d.n
  size : d'.size = d.size
theorem AD.Same.trans {d d' d'' : AD} (h : AD.Same d d') (h' : AD.Same d' d'') : AD.Same d d'' := ⟨h'.n.trans h.n, h'.size.trans h.size⟩
theorem AD.Same.refl (d : AD) : AD.Same d d := ⟨rfl, rfl⟩
theorem AD.write_s (d : AD) (i : Int) (l : List UInt8) : AD.Same d (d.write i l).1 := by
  unfold AD.write
  split
  · exact .refl d
  split
  · exact ⟨(powered_eq d).2.2.2.1, (powered_eq d).2.2.2.2⟩
  · exact ⟨(powered_eq d).2.2.2.1, (powered_eq d).2.2.2.2⟩
theorem AD.flush_s (d : AD) : AD.Same d d.flush.1 := by
  unfold AD.flush
  split
  · exact .refl d
  split
  · exact ⟨(powered_eq d).2.2.2.1, (powered_eq d).2.2.2.2⟩
  · exact ⟨(powered_eq d).2.2.2.1, (powered_eq d).2.2.2.2⟩
theorem fillA_s : ∀ (f : Nat) (d : AD) (s a : Nat) (b : List UInt8), AD.Same d (fillA f d s a b).1
  | 0, d, _, _, _ => .refl d
  | f + 1, d, s, a, b => by
    unfold fillA
    split
    · exact .refl d
    split
    · exact AD.write_s ..
    · exact (AD.write_s ..).trans (fillA_s f ..)
theorem cleanF_s (l : LR) : ∀ (f : Nat) (d : AD) (k : Nat) (z : Bool), AD.Same d (cleanF l f d k z).1
  | 0, d, k, z => by
    unfold cleanF
    split
    · exact AD.flush_s d
    · exact .refl d
  | f + 1, d, k, z => by
    unfold cleanF
    split
    · exact cleanF_s l f ..
    split
    · exact cleanF_s l f ..
    split
    · exact AD.write_s ..
    · exact (AD.write_s ..).trans (cleanF_s l f ..)
/-- How a put ends. -/
inductive PutR (d : AD) (l : LR) (h0 : Hdr) (ls all next : List (List UInt8)) (n s : Nat) (r : AD × LR × Nat) : Prop where
  | long (hc : r = (d, l, 42)) (ht : tooLong ls = true)
  | full (hc : r = (d, l, 40)) (ht : tooLong ls = false) (hf : half n * s - h0.used < (framesF ls).length)
  | done (hc : r.2.2 = 0) (ht : tooLong ls = false) (hf : (framesF ls).length ≤ half n * s - h0.used) (hd : r.1.dead = false) (hs : AD.Same d r.1) (hw : r.1.wr = fun _ => none) (hg : Good r.1.last n s r.2.1.hdr r.2.1.slot next) (lg : r.2.1.g = l.g) (hser : r.2.1.serial ≤ l.serial + 2) (hu : r.2.1.used = h0.used + (framesF ls).length) (hct : r.2.1.count = h0.count)
  | dead (hc : r.2.2 = 32) (ht : tooLong ls = false) (hd : r.1.dead = true) (hs : AD.Same d r.1) (hm : ∀ X, Mix r.1 X → Good X n s l.hdr l.slot all ∨ ∃ h' slot', h'.serial ≤ l.serial + 2 ∧ Good X n s h' slot' next)
theorem settled_mix {d : AD} (hw : d.wr = fun _ => none) {X : Int → List UInt8} (h : Mix d X) : X = d.last := by
  funext j
  have := h j
  unfold AD.last
  rw [hw] at this ⊢
  rcases this with e | e | ⟨_, _, e, _⟩
  · exact e
  · cases e
  · cases e
theorem write_settled {d : AD} {i : Int} {l : List UInt8} (hd : d.dead = false) (hw : d.wr = fun _ => none) : AllMix (d.write i l).1 (fun X => X = d.last ∨ X = upd d.last i l ∨ ∃ a, X = upd d.last i (tornB l (d.last i) a)) := by
  have hsl : d.safe = d.last := by
    funext j
    unfold AD.last
    rw [hw]
  have hpw : d.powered.wr = fun _ => none := (powered_eq d).2.1.trans hw
  unfold AD.write
  rw [if_neg (by simp [hd])]
  by_cases e : d.powered.dead = true
  · rw [if_pos e]
    intro X hX
    left
    rw [settled_mix hpw hX, (powered_eq d).2.2.1]
  · rw [if_neg e]
    intro X hX
    have hs : (d.powered.wrote i l).safe = d.last := (powered_eq d).1.trans hsl
    have ho : ∀ j, j ≠ i → X j = d.last j := fun j hj => by
      have hj2 : (d.powered.wrote i l).wr j = none := by
        show (if j = i then some l else d.powered.wr j) = none
        rw [if_neg hj, hpw]
      rcases hX j with e | e | ⟨_, _, e, _⟩
      · rw [e, hs]
      · rw [hj2] at e; cases e
      · rw [hj2] at e; cases e
    have hi : (d.powered.wrote i l).wr i = some l := if_pos rfl
    have hu : ∀ m, X i = m → X = upd d.last i m := fun m hm => by
      funext j
      by_cases ej : j = i
      · subst ej; rw [upd_at]; exact hm
      · rw [upd_other ej]; exact ho j ej
    rcases hX i with e | e | ⟨l', a, e1, e⟩
    · left
      funext j
      by_cases ej : j = i
      · subst ej; rw [e, hs]
      · exact ho j ej
    · rw [hi] at e
      exact .inr (.inl (hu l (Option.some.inj e).symm))
    · rw [hi] at e1
      obtain rfl := Option.some.inj e1
      rw [hs] at e
      exact .inr (.inr ⟨a, hu _ e⟩)
theorem pubSerial_lt (k : Nat) (x : UInt8) : k < pubSerial k x ∧ pubSerial k x ≤ k + 2 := by
  unfold pubSerial
  split <;> omega
theorem pub_mix {d : AD} {l : LR} {h0 : Hdr} {all next : List (List UInt8)} {n s : Nat} (hn : n ≤ 4096) (hs : 128 ≤ s) (hs2 : s ≤ 4096) (hdn : d.n = n) (hds : d.size = s) (hd : d.dead = false) (hw : d.wr = fun _ => none)
    (g : Good d.last n s l.hdr l.slot all) (hser : l.serial + 2 ≤ 4611686018427387904) (ha : h0.area ≤ 1) (hu : h0.used = (framesF next).length) (hf : h0.used ≤ half n * s) (hc : h0.count = next.length) (hsh : shortOnes next) (hpre : PreP d.last (2 + h0.area * half n) s (framesF next)) (hkp : keepB l.serial n s (d.last (pubSlot l.slot : Nat)) = true) :
    ((pubA d l h0).2.2 = 0 ∧ (pubA d l h0).1.dead = false ∧ AD.Same d (pubA d l h0).1 ∧ (pubA d l h0).1.wr = (fun _ => none) ∧ Good (pubA d l h0).1.last n s (pubA d l h0).2.1.hdr (pubA d l h0).2.1.slot next ∧ (pubA d l h0).2.1.g = l.g ∧ (pubA d l h0).2.1.serial ≤ l.serial + 2 ∧ (pubA d l h0).2.1.used = h0.used ∧ (pubA d l h0).2.1.count = h0.count) ∨
    ((pubA d l h0).2.2 = 32 ∧ (pubA d l h0).1.dead = true ∧ AD.Same d (pubA d l h0).1 ∧ ∀ X, Mix (pubA d l h0).1 X → Good X n s l.hdr l.slot all ∨ ∃ h' slot', h'.serial ≤ l.serial + 2 ∧ Good X n s h' slot' next) := by
  unfold pubA
  rw [hdn, hds]
  have hps := pubSerial_lt l.serial (lastB (d.last (pubSlot l.slot)))
  have hgp := g.publish hn hs hs2 (h1 := pubH d l h0) (next := next) hps.1 (by have := hps.2; show pubSerial _ _ ≤ _; omega) ha hu hf hc hsh hpre
  have hlb : lastB (d.last (pubSlot l.slot : Nat)) ≠ UInt8.ofNat ((pubH d l h0).serial % 256) := fun e => by
    have e2 := congrArg UInt8.toNat e
    rw [UInt8.toNat_ofNat'] at e2
    change (lastB (d.last (pubSlot l.slot : Nat))).toNat = pubSerial l.serial (lastB (d.last (pubSlot l.slot : Nat))) % 256 % _ at e2
    unfold pubSerial at e2
    split at e2 <;> omega
  have hth := torn_header (H := pubH d l h0) hs (g.lens (pubSlot l.slot : Nat)) hkp hlb
  obtain ⟨HB, hHB⟩ : ∃ x, x = hbytes (pubH d l h0) n s := ⟨_, rfl⟩
  rw [← hHB] at hgp hth ⊢
  have hHl : HB.length = s := by rw [hHB]; exact hbytes_length _ n s hs
  clear hHB
  have hpk : pubSlot l.slot < 2 ∧ pubSlot l.slot ≠ l.slot := by unfold pubSlot; split <;> omega
  have w1 := write_settled (i := ((pubSlot l.slot : Nat) : Int)) (l := HB) hd hw
  obtain ⟨-, w2, w3⟩ := write_mix (P := fun _ => True) (i := ((pubSlot l.slot : Nat) : Int)) (l := HB) hd (fun _ _ => trivial) (fun _ _ => trivial) (fun _ _ _ => trivial)
  have huo : upd d.last (pubSlot l.slot : Nat) (d.last (pubSlot l.slot : Nat)) = d.last := by
    funext j
    by_cases e : j = (pubSlot l.slot : Nat)
    · rw [e, upd_at]
    · rw [upd_other e]
  have hs1 := AD.write_s d ((pubSlot l.slot : Nat) : Int) HB
  have hres : ∀ (e : AD), AllMix e (fun X => X = d.last ∨ X = upd d.last (pubSlot l.slot : Nat) HB ∨ ∃ a, X = upd d.last (pubSlot l.slot : Nat) (tornB HB (d.last (pubSlot l.slot : Nat)) a)) → ∀ X, Mix e X → Good X n s l.hdr l.slot all ∨ ∃ h' slot', h'.serial ≤ l.serial + 2 ∧ Good X n s h' slot' next := fun e he X hX => by
    rcases he X hX with rfl | rfl | ⟨a, rfl⟩
    · exact .inl g
    · exact .inr ⟨_, _, hps.2, hgp⟩
    · rcases hth a with e | e | e
      · rw [e]; exact .inr ⟨_, _, hps.2, hgp⟩
      · rw [e, huo]; exact .inl g
      · exact .inl (g.slot_upd hpk.1 hpk.2 (by rw [tornB_length (by rw [hHl, g.lens]), g.lens]) (fun h' e2 => by rw [e] at e2; cases e2))
  by_cases e1 : (d.write (pubSlot l.slot) HB).2 = 0
  · rw [if_neg (by simpa using e1)]
    have hk := AD.write_k e1
    obtain ⟨f1, f2, f3⟩ := flush_mix hk.dead w1
    have hs2 := hs1.trans (AD.flush_s (d.write (pubSlot l.slot) HB).1)
    by_cases e2 : (d.write (pubSlot l.slot) HB).1.flush.2 = 0
    · rw [if_neg (by simpa using e2)]
      refine .inl ⟨rfl, (AD.flush_k e2).dead, hs2, (f3 e2).2.2, ?_, rfl, hps.2, rfl, rfl⟩
      show Good (d.write (pubSlot l.slot) HB).1.flush.1.last n s _ _ next
      rw [(f3 e2).1, w3 e1]
      exact hgp
    · rw [if_pos e2]
      exact .inr ⟨(f2 e2).1, (f2 e2).2, hs2, hres _ f1⟩
  · rw [if_pos e1]
    exact .inr ⟨(w2 e1).1, (w2 e1).2, hs1, hres _ w1⟩
theorem short_of {ls : List (List UInt8)} (h : tooLong ls = false) : shortOnes ls := fun r hr => by
  unfold tooLong at h
  rw [List.any_eq_false] at h
  have := h r hr
  simp at this
  exact this
theorem put_mix {d : AD} {l : LR} {h0 : Hdr} {ls all old : List (List UInt8)} {n s : Nat} (hn : n ≤ 4096) (hs : 128 ≤ s) (hs2 : s ≤ 4096) (hdn : d.n = n) (hds : d.size = s) (hd : d.dead = false) (hw : d.wr = fun _ => none)
    (g : Good d.last n s l.hdr l.slot all) (hser : l.serial + 2 ≤ 4611686018427387904) (hold : (h0.area = l.area ∧ old = all) ∨ (h0.area = 1 - l.area ∧ old = [])) (hu : h0.used = (framesF old).length) (hf : h0.used ≤ half n * s) (hc : h0.count = (old ++ ls).length) :
    PutR d l h0 ls all (old ++ ls) n s (putA d l h0 ls) := by
  have hla : l.area ≤ 1 := g.area
  have ha : h0.area ≤ 1 := by rcases hold with h | h <;> omega
  have hso : shortOnes old := by
    rcases hold with h | h
    · rw [h.2]; exact g.short
    · rw [h.2]; intro r hr; cases hr
  unfold putA
  cases ht : tooLong ls with
  | true => rw [if_pos rfl]; exact .long rfl ht
  | false =>
    rw [if_neg (by simp), hdn, hds]
    by_cases hfu : half n * s - h0.used < (framesF ls).length
    · rw [if_pos hfu]; exact .full rfl ht hfu
    rw [if_neg hfu]
    have hA : AllMix d (fun X => Good X n s l.hdr l.slot all) := fun X hX => by rw [settled_mix hw hX]; exact g
    obtain ⟨c1, c2⟩ := cleanF_mix hs (h := l.hdr) (all := all) l 2 d 0 false (by omega) hd hds hA
    have ckp := cleanF_kept l 2 d 0 false (by omega) hd hdn hds (fun j hj => by omega)
    change (cleanA d l).2 = 0 → ∀ j : Nat, j < 2 → j ≠ l.slot → keepB l.serial n s ((cleanA d l).1.last j) = true at ckp
    have hcs : AD.Same d (cleanA d l).1 := cleanF_s l 2 d 0 false
    have hck : (cleanA d l).2 = 0 → AD.Kept d (cleanA d l).1 := cleanF_k l 2 d 0 false hd
    change AllMix (cleanA d l).1 _ at c1
    change (cleanA d l).2 ≠ 0 → (cleanA d l).2 = 32 ∧ (cleanA d l).1.dead = true at c2
    obtain ⟨R1, hR1⟩ : ∃ R, R = cleanA d l := ⟨_, rfl⟩
    rw [← hR1] at c1 c2 hcs hck ckp ⊢
    clear hR1
    by_cases e1 : R1.2 = 0
    case neg => rw [if_pos e1]; exact .dead (c2 e1).1 ht (c2 e1).2 hcs (fun X hX => .inl (c1 X hX))
    rw [if_neg (by simpa using e1)]
    have hk1 := hck e1
    have hn' : R1.1.n = n := hk1.n.trans hdn
    have hs' : R1.1.size = s := hk1.size.trans hds
    have hg1 : Good R1.1.last n s l.hdr l.slot all := c1 _ (Mix.last _)
    have hpre0 : PreP R1.1.last (2 + h0.area * half n) s (framesF old) := by
      rcases hold with h | h
      · have h1 := hg1.pre
        have e : l.hdr.area = h0.area := h.1.symm
        rw [h.2, ← e]
        exact h1
      · rw [h.2]
        intro p hp
        simp [framesF] at hp
    have hb : (framesF ls).length ≤ half n * s - h0.used := by omega
    -- the frames
    have hfm := fillA_mix (P := fun X => Good X n s l.hdr l.slot all) (base := 2 + h0.area * half n) (m := half n) (s := s) (Fu := framesF old) (by omega) (fun X hX => hX.lens)
      (fun X hX => by
        rcases hold with h | h
        · have h1 := hX.pre
          have e : l.hdr.area = h0.area := h.1.symm
          rw [h.2, ← e]
          exact h1
        · rw [h.2]
          intro p hp
          simp [framesF] at hp)
      (fun X sec w hX h1 h2 hl hp => hX.area_upd (by omega) hl (fun p hpl e => by
        rcases hold with h | h
        · have e2 : l.hdr.area = h0.area := h.1.symm
          rw [e2] at e
          have := hp p (by rw [h.2]; exact hpl) e
          rw [h.2] at this
          exact this
        · exfalso
          have hps : p / s < half n := by
            rw [Nat.div_lt_iff_lt_mul (by omega)]
            have := hX.fits
            rw [hX.used] at this
            omega
          have e2 : l.hdr.area = l.area := rfl
          rw [e2] at e
          have h4 : l.area = 0 ∨ l.area = 1 := by omega
          generalize p / s = t at *
          rcases h4 with h4 | h4 <;> rw [h.1, h4] at h1 h2 <;> rw [h4] at e <;> omega))
      (framesF ls).length R1.1 (2 + h0.area * half n + h0.used / s) (h0.used % s) (framesF ls) (framesF old) hk1.dead hs' c1 (by generalize h0.used / s = t; omega) (Nat.mod_lt _ (by omega)) (by
        rw [Nat.add_sub_cancel_left, ← hu]
        have := Nat.div_add_mod h0.used s
        rw [Nat.mul_comm] at this
        exact this.symm) (by rw [← hu]; omega) hpre0 (fun p hp => ⟨hp, rfl⟩) (Nat.le_refl _)
    have hfd : fillR R1.1 h0 (framesF ls) = fillA (framesF ls).length R1.1 (2 + h0.area * half n + h0.used / s) (h0.used % s) (framesF ls) := by unfold fillR; rw [hn', hs']
    have hfs : AD.Same R1.1 (fillR R1.1 h0 (framesF ls)).1 := fillA_s ..
    have hfk : (fillR R1.1 h0 (framesF ls)).2 = 0 → AD.Kept R1.1 (fillR R1.1 h0 (framesF ls)).1 := fillA_k _ _ _ _ _ hk1.dead
    rw [← hfd] at hfm
    obtain ⟨R2, hR2⟩ : ∃ R, R = fillR R1.1 h0 (framesF ls) := ⟨_, rfl⟩
    rw [← hR2] at hfm hfs hfk ⊢
    clear hR2 hfd
    obtain ⟨f1, f2, f3⟩ := hfm
    by_cases e2 : R2.2 = 0
    case neg => rw [if_pos e2]; exact .dead (f2 e2).1 ht (f2 e2).2 (hcs.trans hfs) (fun X hX => .inl (f1 X hX))
    rw [if_neg (by simpa using e2)]
    have hk2 := hk1.trans (hfk e2)
    have hpre2 := (f3 e2).1
    obtain ⟨l1, l2, l3⟩ := flush_mix hk2.dead f1
    have hls : AD.Same d R2.1.flush.1 := (hcs.trans hfs).trans (AD.flush_s _)
    have hlk : R2.1.flush.2 = 0 → AD.Kept R2.1 R2.1.flush.1 := AD.flush_k
    obtain ⟨R3, hR3⟩ : ∃ R, R = R2.1.flush := ⟨_, rfl⟩
    rw [← hR3] at l1 l2 l3 hls hlk ⊢
    clear hR3
    by_cases e3 : R3.2 = 0
    case neg => rw [if_pos e3]; exact .dead (l2 e3).1 ht (l2 e3).2 hls (fun X hX => .inl (l1 X hX))
    rw [if_neg (by simpa using e3)]
    have hk3 := hk2.trans (hlk e3)
    obtain ⟨m1, m2, m3⟩ := l3 e3
    have hpk : pubSlot l.slot < 2 ∧ pubSlot l.slot ≠ l.slot := by unfold pubSlot; split <;> omega
    have hkp : keepB l.serial n s (R3.1.last (pubSlot l.slot : Nat)) = true := by
      rw [m1, (f3 e2).2 _ (by omega)]
      exact ckp e1 _ hpk.1 hpk.2
    have hg3 : Good R3.1.last n s l.hdr l.slot all := l1 _ (Mix.last _)
    have hnew : framesF (old ++ ls) = framesF old ++ framesF ls := framesF_append old ls
    have hpb := pub_mix (h0 := ⟨h0.serial, h0.area, h0.used + (framesF ls).length, h0.count⟩) (next := old ++ ls) hn hs hs2 (hk3.n.trans hdn) (hk3.size.trans hds) hk3.dead m3 hg3 hser ha (by show _ = _; rw [hnew, List.length_append, ← hu]) (by show h0.used + (framesF ls).length ≤ half n * s; omega) hc
      (fun r hr => by
        rw [List.mem_append] at hr
        rcases hr with hr | hr
        · exact hso r hr
        · exact short_of ht r hr) (by show PreP _ (2 + h0.area * half n) s _; rw [m1, hnew]; exact hpre2) hkp
    rcases hpb with ⟨p1, p2, p3, p4, p5, p6, p7, p8, p9⟩ | ⟨p1, p2, p3, p4⟩
    · exact .done p1 ht hb p2 (hls.trans p3) p4 p5 p6 p7 p8 p9
    · exact .dead p1 ht p2 (hls.trans p3) p4
end Go.Proofs.YtelglbblgkhcmaaGreat
namespace Go.Proofs.YtelglbblgkhcmaaGreat
open Go.RowKit Go.Deep

section
variable {d : AD}
theorem write_live (hd : d.dead = false) (hc : d.cut = false) (i : Int) (l : List UInt8) : d.write i l = (d.wrote i l, 0) := by
  have hp : d.powered = d := by unfold AD.powered; rw [if_neg (by simp [hc])]
  unfold AD.write
  rw [if_neg (by simp [hd]), hp, if_neg (by simp [hd])]
theorem flush_live (hd : d.dead = false) (hc : d.cut = false) : d.flush = (d.settled, 0) := by
  have hp : d.powered = d := by unfold AD.powered; rw [if_neg (by simp [hc])]
  unfold AD.flush
  rw [if_neg (by simp [hd]), hp, if_neg (by simp [hd])]
theorem fillA_live : ∀ (f : Nat) (d : AD) (s a : Nat) (b : List UInt8), d.dead = false → d.cut = false → (fillA f d s a b).2 = 0 ∧ (fillA f d s a b).1.cut = false
  | 0, d, _, _, _, _, hc => ⟨rfl, hc⟩
  | f + 1, d, s, a, b, hd, hc => by
    unfold fillA
    split
    · exact ⟨rfl, hc⟩
    rw [write_live hd hc, if_neg (by simp)]
    exact fillA_live f (d.wrote _ _) _ _ _ hd hc
theorem cleanF_live (l : LR) : ∀ (f : Nat) (d : AD) (k : Nat) (z : Bool), d.dead = false → d.cut = false → (cleanF l f d k z).2 = 0 ∧ (cleanF l f d k z).1.cut = false
  | 0, d, k, z, hd, hc => by
    unfold cleanF
    split
    · rw [flush_live hd hc]; exact ⟨rfl, hc⟩
    · exact ⟨rfl, hc⟩
  | f + 1, d, k, z, hd, hc => by
    unfold cleanF
    split
    · exact cleanF_live l f d _ z hd hc
    split
    · exact cleanF_live l f d _ z hd hc
    rw [write_live hd hc, if_neg (by simp)]
    exact cleanF_live l f (d.wrote _ _) _ true hd hc
theorem pubA_live (hd : d.dead = false) (hc : d.cut = false) (l : LR) (h : Hdr) : (pubA d l h).2.2 = 0 ∧ (pubA d l h).1.cut = false := by
  unfold pubA
  rw [write_live hd hc, if_neg (by simp)]
  have := flush_live (d := d.wrote (pubSlot l.slot : Nat) (hbytes (pubH d l h) d.n d.size)) hd hc
  rw [this, if_neg (by simp)]
  exact ⟨rfl, hc⟩
theorem putA_live (hd : d.dead = false) (hc : d.cut = false) (l : LR) (h : Hdr) (ls : List (List UInt8)) : (putA d l h ls).2.2 ≠ 32 ∧ (putA d l h ls).1.cut = false := by
  unfold putA
  split
  · exact ⟨by simp, hc⟩
  split
  · exact ⟨by simp, hc⟩
  obtain ⟨c1, c2⟩ := cleanF_live l 2 d 0 false hd hc
  have ck := (cleanF_k l 2 d 0 false hd c1).dead
  change (cleanA d l).2 = 0 at c1
  change (cleanA d l).1.cut = false at c2
  change (cleanA d l).1.dead = false at ck
  rw [if_neg (by simpa using c1)]
  obtain ⟨f1, f2⟩ := fillA_live (framesF ls).length (cleanA d l).1 (2 + h.area * half (cleanA d l).1.n + h.used / (cleanA d l).1.size) (h.used % (cleanA d l).1.size) (framesF ls) ck c2
  have fk := (fillA_k _ _ _ _ _ ck f1).dead
  change (fillR (cleanA d l).1 h (framesF ls)).2 = 0 at f1
  change (fillR (cleanA d l).1 h (framesF ls)).1.cut = false at f2
  change (fillR (cleanA d l).1 h (framesF ls)).1.dead = false at fk
  rw [if_neg (by simpa using f1), flush_live fk f2, if_neg (by simp)]
  obtain ⟨p1, p2⟩ := pubA_live (d := (fillR (cleanA d l).1 h (framesF ls)).1.settled) fk f2 l ⟨h.serial, h.area, h.used + (framesF ls).length, h.count⟩
  exact ⟨by rw [p1]; simp, p2⟩
end
/-- A log on a disk of n sectors of s bytes, whose records are all. -/
structure LogS (n s : Nat) (l : LR) (q : DR) (w : World) (all : List (List UInt8)) : Prop where
  log : LogP l q w
  disk : DiskP q w
  dead : q.dead = false
  hn : q.n = n
  hsz : q.size = s
  wr : q.abs.wr = fun _ => none
  good : Good q.abs.last n s l.hdr l.slot all
theorem LogS.below {n s : Nat} {l : LR} {q : DR} {w w' : World} {all : List (List UInt8)} (h : LogS n s l q w all) (hb : Below w.heap.size w w') : LogS n s l q w' all :=
  ⟨h.log.below hb, h.disk.below hb, h.dead, h.hn, h.hsz, h.wr, h.good⟩
theorem frames_eight (ls : List (List UInt8)) : ls.length * 8 ≤ (framesF ls).length := by
  induction ls with
  | nil => simp
  | cons a t ih =>
    rw [show framesF (a :: t) = frameOf a ++ framesF t from by simp [framesF], List.length_append, frameOf_length, List.length_cons, Nat.succ_mul]
    omega
/-- Records that a call has handed back, as a slice of slices. -/
theorem RecsAt.slices {B : Nat} {w : World} {v : Value} {ps : List Pay} (h : RecsAt B w v ps) : ∃ A c, v = .slice A ps.length c ∧ Slices w w.heap.size A (ps.map (·.l)) ∧ ps.length ≤ c := by
  obtain ⟨A, c, rfl, hr, _, hc⟩ := own_row h.1
  refine ⟨A, c, rfl, ⟨ps.map Pay.val, by simp, hr, fun i hi => ?_⟩, hc⟩
  have hi' : i < ps.length := by simpa using hi
  have hp := h.2 ps[i] (List.getElem_mem hi')
  obtain ⟨Ai, ci, e1, hri, _, _⟩ := own_row hp
  have hm : ps[i].l.length ≤ maxLen := by
    rcases hp.2 with ⟨_, e⟩ | ⟨g, cap, cur, _, _, _, h1, h2, _⟩
    · rw [e]; unfold maxLen; omega
    · omega
  refine ⟨Ai, ci, ?_, ?_, ?_⟩
  · rw [List.getElem?_map, List.getElem?_eq_getElem hi', List.getElem_map]
    exact congrArg some e1
  · rw [List.getElem_map]
    exact hri
  · rw [List.getElem_map]
    exact hm
/-- Open, where there is power. -/
theorem open_live {n s slot : Nat} {h : Hdr} {all : List (List UInt8)} (hn1 : 16 ≤ n) (hs : 128 ≤ s) (w : World) (q : DR) (hq : DiskP q w) (hd : q.dead = false) (hc : q.cut = false) (hn : q.n = n) (hsz : q.size = s) (hg : Good q.abs.last n s h slot all) :
    Calls Tryz.prog 27 #[.pointer (some ⟨q.g, 0, none⟩)] w fun e w' => ∃ q' l A c, e = .returned (.tuple #[.pointer (some ⟨l.g, 0, none⟩), .slice A all.length c, .int .i64 0]) ∧ DStep q w q' w' ∧ w.heap.size ≤ l.g ∧ LogS n s l q' w' all ∧ l.hdr = h ∧ l.slot = slot ∧ Slices w' w'.heap.size A all ∧ all.length ≤ c ∧ q'.cut = false := by
  refine (open_any w q hq (by omega) (by omega)).mono fun e w' hO => ?_
  unfold OpenE at hO
  have hf := flush_live (d := q.abs) hd hc
  rw [hf, if_neg (by simp)] at hO
  obtain ⟨q', g, v, ps, rfl, hst, hab, hge, hlog, hrec, hps⟩ := hO
  have hlast : q'.abs.last = q.abs.last := by rw [hab]; funext j; rfl
  have hg' : Good q'.last q'.n q'.size h slot all := by
    have e1 : q'.last = q'.abs.last := by funext j; exact (abs_last q' j).symm
    have e2 : q'.n = n := by have : q'.abs.n = q.abs.n := by rw [hab]; rfl
                             exact this.trans hn
    have e3 : q'.size = s := by have : q'.abs.size = q.abs.size := by rw [hab]; rfl
                                exact this.trans hsz
    rw [e1, e2, e3, hlast]
    exact hg
  have hop := hg'.open (by have := hst.post.s1; omega)
  rw [hop] at hlog hps
  obtain ⟨A, c, rfl, hsl, hlc⟩ := hrec.slices
  rw [hps] at hsl
  have hpl : ps.length = all.length := by have := congrArg List.length hps; simpa using this
  rw [hpl] at hlc ⊢
  refine ⟨q', LR.of g (h, slot), A, c, rfl, hst, hge, ⟨hlog, hst.post, ?_, ?_, ?_, ?_, ?_⟩, rfl, rfl, hsl, hlc, ?_⟩
  · have : q'.abs.dead = q.abs.dead := by rw [hab]; rfl
    exact this.trans hd
  · have : q'.abs.n = q.abs.n := by rw [hab]; rfl
    exact this.trans hn
  · have : q'.abs.size = q.abs.size := by rw [hab]; rfl
    exact this.trans hsz
  · rw [hab]; rfl
  · rw [hlast]; exact hg
  · have : q'.abs.cut = q.abs.cut := by rw [hab]; rfl
    exact this.trans hc
section
variable {n s : Nat} {l : LR} {q : DR} {w : World} {all : List (List UInt8)}
theorem commit_law (hn1 : 16 ≤ n) (hs : 128 ≤ s) (h : LogS n s l q w all) (hser : l.serial + 2 ≤ 4611686018427387904) (A : Option Addr) (m c : Nat) (ls : List (List UInt8)) (hln : ls.length = m) (hm : m ≤ 100000) (hsl : Slices w w.heap.size A ls) :
    Calls Tryz.prog 56 #[.pointer (some ⟨l.g, 0, none⟩), .slice A m c] w fun e w' => ∃ l' q' code, e = .returned (.int .i64 (code : Nat)) ∧ LStep l q w l' q' w' ∧ PutR q.abs l ⟨l.serial, l.area, l.used, l.count + ls.length⟩ ls all (all ++ ls) n s (q'.abs, l', code) ∧ (q.cut = false → code ≠ 32 ∧ q'.cut = false) := by
  have hq := h.disk
  have hg := h.good
  have h2 : q.size ≤ 4096 := hq.s2
  have h3 : q.n ≤ 4096 := hq.n2
  have hnn := h.hn
  have hss := h.hsz
  have hm2 : half n * s ≤ 2047 * 4096 := Nat.mul_le_mul (half_le n (by omega)) (by omega)
  have hcnt : l.count ≤ 100000000 := by
    have h8 := frames_eight all
    have e1 : l.count = all.length := hg.count
    have e2 : l.used = (framesF all).length := hg.used
    have e3 : l.used ≤ half n * s := hg.fits
    omega
  refine (commit_any w l q h.log hq h.dead (by omega) (by omega) hg.area (by rw [hnn, hss]; exact hg.fits) hcnt (by omega) A m c ls hln hm hsl).mono fun e w' hL => ?_
  obtain ⟨he, q', hst, hab⟩ := hL
  have hp := put_mix (h0 := ⟨l.serial, l.area, l.used, l.count + ls.length⟩) (ls := ls) (old := all) (by omega) hs (by omega) hnn hss h.dead h.wr hg hser (.inl ⟨rfl, rfl⟩) hg.used hg.fits (by show l.count + ls.length = _; rw [List.length_append]; have : l.count = all.length := hg.count; omega)
  have hlv := putA_live (d := q.abs) (l := l) (h := ⟨l.serial, l.area, l.used, l.count + ls.length⟩) (ls := ls) h.dead
  change PutR _ _ _ _ _ _ _ _ (commitA q.abs l ls) at hp
  refine ⟨_, q', _, he, hst, ?_, fun hc => ⟨(hlv hc).1, ?_⟩⟩
  · rw [hab]; exact hp
  · have : q'.abs.cut = (commitA q.abs l ls).1.cut := by rw [hab]
    exact this.trans (hlv hc).2
theorem reset_law (hn1 : 16 ≤ n) (hs : 128 ≤ s) (h : LogS n s l q w all) (hser : l.serial + 2 ≤ 4611686018427387904) (A : Option Addr) (m c : Nat) (ls : List (List UInt8)) (hln : ls.length = m) (hm : m ≤ 100000) (hsl : Slices w w.heap.size A ls) :
    Calls Tryz.prog 58 #[.pointer (some ⟨l.g, 0, none⟩), .slice A m c] w fun e w' => ∃ l' q' code, e = .returned (.int .i64 (code : Nat)) ∧ LStep l q w l' q' w' ∧ PutR q.abs l ⟨0, 1 - l.area, 0, ls.length⟩ ls all ls n s (q'.abs, l', code) ∧ (q.cut = false → code ≠ 32 ∧ q'.cut = false) := by
  have hq := h.disk
  have hg := h.good
  have h2 : q.size ≤ 4096 := hq.s2
  have h3 : q.n ≤ 4096 := hq.n2
  have hnn := h.hn
  have hss := h.hsz
  refine (reset_any w l q h.log hq h.dead (by omega) (by omega) hg.area (by omega) A m c ls hln hm hsl).mono fun e w' hL => ?_
  obtain ⟨he, q', hst, hab⟩ := hL
  have hp := put_mix (h0 := ⟨0, 1 - l.area, 0, ls.length⟩) (ls := ls) (old := []) (by omega) hs (by omega) hnn hss h.dead h.wr hg hser (.inr ⟨rfl, rfl⟩) rfl (Nat.zero_le _) rfl
  have hlv := putA_live (d := q.abs) (l := l) (h := ⟨0, 1 - l.area, 0, ls.length⟩) (ls := ls) h.dead
  change PutR _ _ _ _ _ _ _ _ (resetA q.abs l ls) at hp
  rw [List.nil_append] at hp
  refine ⟨_, q', _, he, hst, ?_, fun hc => ⟨(hlv hc).1, ?_⟩⟩
  · rw [hab]; exact hp
  · have : q'.abs.cut = (resetA q.abs l ls).1.cut := by rw [hab]
    exact this.trans (hlv hc).2
/-- What a put that was done leaves stands. -/
theorem PutR.stands {l' : LR} {q' : DR} {w' : World} {h0 : Hdr} {ls next : List (List UInt8)} {code : Nat} (h : PutR q.abs l h0 ls all next n s (q'.abs, l', code)) (hS : LogS n s l q w all) (hst : LStep l q w l' q' w') (hc : code = 0) : LogS n s l' q' w' next ∧ l'.serial ≤ l.serial + 2 ∧ l'.used = h0.used + (framesF ls).length ∧ l'.count = h0.count := by
  cases h with
  | long h1 _ => have := congrArg (fun x => x.2.2) h1; simp at this; omega
  | full h1 _ _ => have := congrArg (fun x => x.2.2) h1; simp at this; omega
  | done h1 h2 h3 h4 h5 h6 h7 h8 h9 h10 h11 => exact ⟨⟨hst.log, hst.post, h4, h5.n.trans hS.hn, h5.size.trans hS.hsz, h6, h7⟩, h9, h10, h11⟩
  | dead h1 _ _ _ _ => have h1 : code = 32 := h1; omega
/-- What a put that was refused leaves stands as it was. -/
theorem PutR.refused {l' : LR} {q' : DR} {w' : World} {h0 : Hdr} {ls next : List (List UInt8)} {code : Nat} (h : PutR q.abs l h0 ls all next n s (q'.abs, l', code)) (hS : LogS n s l q w all) (hst : LStep l q w l' q' w') (hc : code ≠ 0) (hc2 : code ≠ 32) : LogS n s l' q' w' all ∧ l' = l ∧ ((code = 42 ∧ tooLong ls = true) ∨ (code = 40 ∧ tooLong ls = false ∧ half n * s - h0.used < (framesF ls).length)) := by
  have hx : ∀ {k : Nat}, ((q'.abs, l', code) : AD × LR × Nat) = (q.abs, l, k) → LogS n s l' q' w' all ∧ l' = l ∧ code = k := fun e => by
    injection e with e1 e2
    injection e2 with e2 e3
    subst e2
    refine ⟨⟨hst.log, hst.post, ?_, ?_, ?_, by rw [e1]; exact hS.wr, by rw [e1]; exact hS.good⟩, rfl, e3⟩
    · exact (congrArg AD.dead e1).trans hS.dead
    · exact (congrArg AD.n e1).trans hS.hn
    · exact (congrArg AD.size e1).trans hS.hsz
  cases h with
  | long h1 h2 => exact ⟨(hx h1).1, (hx h1).2.1, .inl ⟨(hx h1).2.2, h2⟩⟩
  | full h1 h2 h3 => exact ⟨(hx h1).1, (hx h1).2.1, .inr ⟨(hx h1).2.2, h2, h3⟩⟩
  | done h1 => exact absurd h1 hc
  | dead h1 => exact absurd h1 hc2
end
/-- A disk of zeros holds no log. -/
theorem good_zero (n s : Nat) : Good (fun _ => zerosB s) n s zeroH 2 [] :=
  ⟨fun _ => by simp [zerosB], fun p hp => by simp [framesF] at hp, rfl, rfl, fun r hr => (by cases hr), by simp [zeroH], by simp [zeroH], by omega, fun _ => ⟨rfl, rfl⟩, fun h => by omega, fun k _ _ h' e => by rw [zerosB, parse_zeros] at e; cases e⟩
end Go.Proofs.YtelglbblgkhcmaaGreat
