/-
  Disks and logs that stand: Open on small disks, new disks; a log with power, its operations that are done.
-/
import Derived.Test.YtelglbblgkhcmaaGreatWf
namespace Go.Proofs.YtelglbblgkhcmaaGreat
open Go.RowKit Go.Deep

set_option maxRecDepth 100000 in
set_option maxHeartbeats 4000000 in
/-- Open on a disk of few sectors. -/
theorem open_small (w : World) (q : DR) (hq : DiskP q w) (hn : q.n < 16) : Calls Tryz.prog 27 #[.pointer (some ⟨q.g, 0, none⟩)] w fun e w' => e = .returned (.tuple #[.pointer none, .slice none 0 0, .int .i64 41]) ∧ w' = w := by
  have hi1 : (q.n : Int) < 16 := by omega
  have hsc := sectors_any w q hq
  clear hq
  go_enter Tryz.func27, Tryz.ntmps27
  go_wp2_with fail
  refine hsc.mono ?_
  clear hsc
  rintro e w2 ⟨rfl, e2⟩
  rw [e2]
  clear e2 w2
  go_wp2_with fail
  go_ret3
  exact ⟨rfl, rfl⟩
/-- A disk of zeros, as New makes it. -/
structure NewD (n s : Nat) (q : DR) (w : World) : Prop where
  disk : DiskP q w
  dead : q.dead = false
  cut : q.cut = false
  hn : q.n = n
  hsz : q.size = s
  good : Good q.abs.last n s zeroH 2 []
theorem newd_any (w : World) (n s : Nat) (h1 : 1 ≤ n) (h2 : n ≤ 4096) (h3 : 64 ≤ s) (h4 : s ≤ 4096) :
    Calls Tryz.prog 10 #[.int .i64 n, .int .i64 s] w fun e w' => ∃ q, e = .returned (.pointer (some ⟨q.g, 0, none⟩)) ∧ NewD n s q w' ∧ w.heap.size ≤ q.g ∧ Below w.heap.size w w' ∧ ∀ x, q.F x → w.heap.size ≤ x := by
  refine (new_any w n s n s (by omega) (by omega)).mono fun e w' ⟨he, hd, hb⟩ => ⟨_, he, ⟨hd, rfl, rfl, rfl, rfl, ?_⟩, Nat.le_refl _, hb, ?_⟩
  · have : (DR.abs ⟨w.heap.size, w.heap.size + 1, w.heap.size + 1 + 1, n, s, fun _ => none, fun _ => none, false, false, 0⟩).last = fun _ => zerosB s := by funext j; rfl
    rw [this]
    exact good_zero n s
  · rintro x (h | h | h | ⟨k, p, hp, _⟩)
    · rw [h]; exact Nat.le_refl _
    · rw [h]; show w.heap.size ≤ w.heap.size + 1; omega
    · rw [h]; show w.heap.size ≤ w.heap.size + 1 + 1; omega
    · rcases hp with hp | hp <;> cases hp
/-- A disk's blocks are all new since block B. -/
def Hi (B : Nat) (q : DR) : Prop := ∀ x, q.F x → B ≤ x
section
variable {B : Nat} {l l' : LR} {q q' : DR} {w w' : World}
theorem DStep.hi (h : DStep q w q' w') (hB : B ≤ w.heap.size) (hF : Hi B q) : Below B w w' ∧ Hi B q' := by
  refine ⟨h.wrt.below hB (fun k hk => ?_), fun x hx => ?_⟩
  · simp only [List.mem_cons, Option.some.injEq, List.not_mem_nil, or_false] at hk
    rcases hk with rfl | rfl | rfl
    · exact hF _ (.inl rfl)
    · exact hF _ (.inr (.inl rfl))
    · exact hF _ (.inr (.inr (.inl rfl)))
  · rcases h.F x hx with e | e
    · exact hF x e
    · omega
theorem LStep.hi (h : LStep l q w l' q' w') (hB : B ≤ w.heap.size) (hF : Hi B q) (hl : B ≤ l.g) : Below B w w' ∧ Hi B q' ∧ B ≤ l'.g := by
  refine ⟨h.wrt.below hB (fun k hk => ?_), fun x hx => ?_, by rw [h.lg]; exact hl⟩
  · simp only [List.mem_cons, Option.some.injEq, List.not_mem_nil, or_false] at hk
    rcases hk with rfl | rfl | rfl | rfl
    · exact hl
    · exact hF _ (.inl rfl)
    · exact hF _ (.inr (.inl rfl))
    · exact hF _ (.inr (.inr (.inl rfl)))
  · rcases h.F x hx with e | e
    · exact hF x e
    · omega
end
/-- A put that fits is done, where there is power. -/
theorem PutR.fits {d : AD} {l l' : LR} {q' : DR} {h0 : Hdr} {ls all next : List (List UInt8)} {n s code : Nat} (h : PutR d l h0 ls all next n s (q'.abs, l', code)) (hc : code ≠ 32) (ht : tooLong ls = false) (hf : (framesF ls).length ≤ half n * s - h0.used) : code = 0 := by
  cases h with
  | long _ h2 => rw [ht] at h2; cases h2
  | full _ _ h3 => omega
  | done h1 => exact h1
  | dead h1 => exact absurd h1 hc
theorem PutR.long' {d : AD} {l l' : LR} {q' : DR} {h0 : Hdr} {ls all next : List (List UInt8)} {n s code : Nat} (h : PutR d l h0 ls all next n s (q'.abs, l', code)) (ht : tooLong ls = true) : code = 42 := by
  cases h with
  | long h1 _ => have := congrArg (fun x => x.2.2) h1; simpa using this
  | full _ h2 _ => rw [ht] at h2; cases h2
  | done _ h2 => rw [ht] at h2; cases h2
  | dead _ h2 => rw [ht] at h2; cases h2
/-- A log whose disk has gone on stands, if what is on it has not turned. -/
theorem LogS.other {n s : Nat} {l l2 : LR} {q q2 : DR} {w w2 : World} {all : List (List UInt8)} (h : LogS n s l q w all) (hst : DStep q w q2 w2) (h2 : LogS n s l2 q2 w2 all) (e1 : l2.hdr = l.hdr) (e2 : l2.slot = l.slot) : LogS n s l q2 w2 all :=
  ⟨h.log.dstep h.disk hst, h2.disk, h2.dead, h2.hn, h2.hsz, h2.wr, by have := h2.good; rw [e1, e2] at this; exact this⟩
section
variable {B n s : Nat} {l l' : LR} {q q' : DR} {w w' : World} {all : List (List UInt8)}
theorem LogP.noslice (hl : LogP l q w) {b o : Nat} {A : Option Addr} {n c : Nat} (h0 : w.cell? ⟨b, o, none⟩ = some (.slice A n c)) : b ≠ l.g := by
  rintro rfl
  have hh : Holds w l.g 104 (l.cells q.g) := hl
  rw [hh.cell] at h0
  match o, h0 with
  | 0, h0 => simp [LR.cells] at h0
  | 1, h0 => simp [LR.cells] at h0
  | 2, h0 => simp [LR.cells] at h0
  | 3, h0 => simp [LR.cells] at h0
  | 4, h0 => simp [LR.cells] at h0
  | 5, h0 => simp [LR.cells] at h0
  | k + 6, h0 => simp [LR.cells] at h0
theorem LStep.bytesB (h : LStep l q w l' q' w') (hl : LogP l q w) (hq : DiskP q w) {C : Nat} {A : Option Addr} {x : List UInt8} (hb : Bytes w C A x) : Bytes w' C A x := fun hn => by
  obtain ⟨b, off, e, hlt, hc⟩ := hb hn
  have hx : x ≠ [] := by simpa using hn
  refine ⟨b, off, e, hlt, fun j u hu => ?_⟩
  rw [← hc j u hu]
  have hrow : RowAt w A (x.map byteV) := fun _ => ⟨b, off, e, hc⟩
  obtain ⟨a1, a2, a3⟩ := byte_apart hq hrow hx (x := b) (by rw [e]; rfl)
  have a4 : b ≠ l.g := fun hbg => hl.byte hrow hx (by rw [e]; simp [blk, hbg])
  exact World.cell?_of_block (h.wrt.block b (cell_lt (hc j u hu)) (by simp; exact ⟨a4, a1, a2, a3⟩))
theorem LStep.slices (h : LStep l q w l' q' w') (hl : LogP l q w) (hq : DiskP q w) {C : Nat} {A : Option Addr} {ls : List (List UInt8)} (hs : Slices w C A ls) : Slices w' C A ls := by
  obtain ⟨vs, hvl, hr, hi⟩ := hs
  refine ⟨vs, hvl, fun hn => ?_, fun i hlt => ?_⟩
  · obtain ⟨b, off, e, hlt, hc⟩ := hr hn
    refine ⟨b, off, e, hlt, fun j u hu => ?_⟩
    rw [← hc j u hu]
    have hjl : j < ls.length := by
      rw [← hvl]
      rcases Nat.lt_or_ge j vs.length with h1 | h1
      · exact h1
      · rw [List.getElem?_eq_none h1] at hu; cases hu
    obtain ⟨Ai, ci, h1, _⟩ := hi j hjl
    rw [hu] at h1
    injection h1 with h1
    subst h1
    have h0 := hc j _ hu
    obtain ⟨a1, a2, a3⟩ := slice_apart hq h0
    exact World.cell?_of_block (h.wrt.block b (cell_lt h0) (by simp; exact ⟨hl.noslice h0, a1, a2, a3⟩))
  · obtain ⟨Ai, ci, h1, h2, h3⟩ := hi i hlt
    exact ⟨Ai, ci, h1, h.bytesB hl hq h2, h3⟩
/-- Slices of bytes stay. -/
def KeepS (w w' : World) : Prop := ∀ A ls, Slices w w.heap.size A ls → Slices w' w'.heap.size A ls
theorem KeepS.below (hb : Below w.heap.size w w') : KeepS w w' := fun _ _ h => h.up hb
theorem KeepS.lstep (h : LStep l q w l' q' w') (hl : LogP l q w) (hq : DiskP q w) : KeepS w w' := fun _ _ hs => (h.slices hl hq hs).more h.wrt.size
theorem KeepS.dstep (h : DStep q w q' w') (hq : DiskP q w) : KeepS w w' := fun _ _ hs => (h.slices hq hs).more h.wrt.size
/-- A log that stands with power, whose blocks are all new since B. -/
structure Lg (B n s : Nat) (gl gq : Nat) (l : LR) (q : DR) (w : World) (all : List (List UInt8)) : Prop where
  st : LogS n s l q w all
  hi : Hi B q
  el : l.g = gl
  eq : q.g = gq
  low : B ≤ gl
  cut : q.cut = false
theorem Lg.below {gl gq : Nat} (h : Lg B n s gl gq l q w all) (hb : Below w.heap.size w w') : Lg B n s gl gq l q w' all := ⟨h.st.below hb, h.hi, h.el, h.eq, h.low, h.cut⟩
/-- What a call that is done leaves. -/
structure DoneL (B n s gl gq : Nat) (l : LR) (w : World) (next : List (List UInt8)) (l' : LR) (q' : DR) (w' : World) : Prop where
  lg : Lg B n s gl gq l' q' w' next
  ser : l'.serial ≤ l.serial + 2
  bel : Below B w w'
  keep : KeepS w w'
theorem commit_done {gl gq : Nat} (hn1 : 16 ≤ n) (hs : 128 ≤ s) (h : Lg B n s gl gq l q w all) (hB : B ≤ w.heap.size) (hser : l.serial + 2 ≤ 4611686018427387904) (A : Option Addr) (m c : Nat) (ls : List (List UInt8)) (hln : ls.length = m) (hm : m ≤ 100000) (hsl : Slices w w.heap.size A ls) (ht : tooLong ls = false) (hf : (framesF ls).length + l.used ≤ half n * s) :
    Calls Tryz.prog 56 #[.pointer (some ⟨gl, 0, none⟩), .slice A m c] w fun e w' => ∃ l' q', e = .returned (.int .i64 0) ∧ DoneL B n s gl gq l w (all ++ ls) l' q' w' ∧ l'.used = l.used + (framesF ls).length ∧ l'.count = l.count + ls.length := by
  have hc := commit_law hn1 hs h.st hser A m c ls hln hm hsl
  rw [h.el] at hc
  refine hc.mono fun e w' hE => ?_
  obtain ⟨l', q', code, rfl, hst, hput, hlive⟩ := hE
  have h0 : code = 0 := hput.fits (hlive h.cut).1 ht (by show _ ≤ half n * s - l.used; omega)
  obtain ⟨h1, h2, h3, h4⟩ := hput.stands h.st hst h0
  obtain ⟨b1, b2, b3⟩ := hst.hi hB h.hi (by rw [h.el]; exact h.low)
  subst h0
  exact ⟨l', q', rfl, ⟨⟨h1, b2, hst.lg.trans h.el, hst.g.trans h.eq, h.low, (hlive h.cut).2⟩, h2, b1, .lstep hst h.st.log h.st.disk⟩, h3, h4⟩
theorem reset_done {gl gq : Nat} (hn1 : 16 ≤ n) (hs : 128 ≤ s) (h : Lg B n s gl gq l q w all) (hB : B ≤ w.heap.size) (hser : l.serial + 2 ≤ 4611686018427387904) (A : Option Addr) (m c : Nat) (ls : List (List UInt8)) (hln : ls.length = m) (hm : m ≤ 100000) (hsl : Slices w w.heap.size A ls) (ht : tooLong ls = false) (hf : (framesF ls).length ≤ half n * s) :
    Calls Tryz.prog 58 #[.pointer (some ⟨gl, 0, none⟩), .slice A m c] w fun e w' => ∃ l' q', e = .returned (.int .i64 0) ∧ DoneL B n s gl gq l w ls l' q' w' ∧ l'.used = (framesF ls).length ∧ l'.count = ls.length := by
  have hc := reset_law hn1 hs h.st hser A m c ls hln hm hsl
  rw [h.el] at hc
  refine hc.mono fun e w' hE => ?_
  obtain ⟨l', q', code, rfl, hst, hput, hlive⟩ := hE
  have h0 : code = 0 := hput.fits (hlive h.cut).1 ht (by show _ ≤ half n * s - 0; omega)
  obtain ⟨h1, h2, h3, h4⟩ := hput.stands h.st hst h0
  obtain ⟨b1, b2, b3⟩ := hst.hi hB h.hi (by rw [h.el]; exact h.low)
  subst h0
  refine ⟨l', q', rfl, ⟨⟨h1, b2, hst.lg.trans h.el, hst.g.trans h.eq, h.low, (hlive h.cut).2⟩, h2, b1, .lstep hst h.st.log h.st.disk⟩, ?_, h4⟩
  rw [h3]
  exact Nat.zero_add _
/-- Open, anew: what was there is there; the disk goes on. -/
theorem reopen_lg {gl gq : Nat} (hn1 : 16 ≤ n) (hs : 128 ≤ s) (h : Lg B n s gl gq l q w all) (hB : B ≤ w.heap.size) :
    Calls Tryz.prog 27 #[.pointer (some ⟨gq, 0, none⟩)] w fun e w' => ∃ q' l2 A c, e = .returned (.tuple #[.pointer (some ⟨l2.g, 0, none⟩), .slice A all.length c, .int .i64 0]) ∧ Lg B n s l2.g gq l2 q' w' all ∧ Lg B n s gl gq l q' w' all ∧ l2.serial = l.serial ∧ l2.used = l.used ∧ Below B w w' ∧ KeepS w w' ∧ Slices w' w'.heap.size A all ∧ all.length ≤ c := by
  have ho := open_live hn1 hs w q h.st.disk h.st.dead h.cut h.st.hn h.st.hsz h.st.good
  rw [h.eq] at ho
  refine ho.mono fun e w' hE => ?_
  obtain ⟨q', l2, A, c, rfl, hst, hge, hS, hh, hsl, hrow, hlc, hcut⟩ := hE
  obtain ⟨b1, b2⟩ := hst.hi hB h.hi
  exact ⟨q', l2, A, c, rfl, ⟨hS, b2, rfl, hst.g.trans h.eq, Nat.le_trans hB hge, hcut⟩, ⟨h.st.other hst hS hh hsl, b2, h.el, hst.g.trans h.eq, h.low, hcut⟩, congrArg Hdr.serial hh, congrArg Hdr.used hh, b1, .dstep hst h.st.disk, hrow, hlc⟩
/-- Open on a new disk. -/
theorem open_new (hn1 : 16 ≤ n) (hs : 128 ≤ s) (h : NewD n s q w) (hF : Hi B q) (hB : B ≤ w.heap.size) :
    Calls Tryz.prog 27 #[.pointer (some ⟨q.g, 0, none⟩)] w fun e w' => ∃ q' l c A, e = .returned (.tuple #[.pointer (some ⟨l.g, 0, none⟩), .slice A 0 c, .int .i64 0]) ∧ Lg B n s l.g q.g l q' w' [] ∧ l.serial = 0 ∧ l.used = 0 ∧ Below B w w' ∧ KeepS w w' := by
  refine (open_live hn1 hs w q h.disk h.dead h.cut h.hn h.hsz h.good).mono fun e w' hE => ?_
  obtain ⟨q', l2, A, c, rfl, hst, hge, hS, hh, hsl, hrow, hlc, hcut⟩ := hE
  obtain ⟨b1, b2⟩ := hst.hi hB hF
  exact ⟨q', l2, c, A, rfl, ⟨hS, b2, rfl, hst.g, Nat.le_trans hB hge, hcut⟩, congrArg Hdr.serial hh, congrArg Hdr.used hh, b1, .dstep hst h.disk⟩
end
end Go.Proofs.YtelglbblgkhcmaaGreat
