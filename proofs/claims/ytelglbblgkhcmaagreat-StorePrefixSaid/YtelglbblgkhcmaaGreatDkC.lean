/-
  What a method turns of a disk; the walks of power, Write, Cut.
-/
import Derived.Test.YtelglbblgkhcmaaGreatDkB
import Derived.Test.YtelglbblgkhcmaaGreatCS
import Derived.IntWalk
namespace Go.Proofs.YtelglbblgkhcmaaGreat
open Go.RowKit Go.Deep

/-- q has turned into q', and nothing else but new blocks. -/
structure DStep (q : DR) (w : World) (q' : DR) (w' : World) : Prop where
  wrt : Writes [some q.g, some q.md, some q.mw] w w'
  post : DiskP q' w'
  g : q'.g = q.g
  md : q'.md = q.md ∨ w.heap.size ≤ q'.md
  mw : q'.mw = q.mw ∨ w.heap.size ≤ q'.mw
  foot : ∀ k p, q'.has k p → ∀ x, blk p.A = some x → q.F x ∨ w.heap.size ≤ x
section
variable {q q' q'' : DR} {w w' w'' : World}
theorem DStep.F (h : DStep q w q' w') : ∀ x, q'.F x → q.F x ∨ w.heap.size ≤ x := by
  rintro x (rfl | rfl | rfl | ⟨k, p, hp, hx⟩)
  · exact .inl (.inl h.g)
  · rcases h.md with e | e
    · exact .inl (.inr (.inl e))
    · exact .inr e
  · rcases h.mw with e | e
    · exact .inl (.inr (.inr (.inl e)))
    · exact .inr e
  · exact h.foot k p hp x hx
theorem DStep.upd (h : DStep q w q' w') : Upd (DiskC q) w (DiskC q') w' :=
  ⟨Tch.of_writes h.wrt (fun k hk => by
    simp at hk
    rcases hk with rfl | rfl | rfl
    · exact .inl rfl
    · exact .inr (.inl rfl)
    · exact .inr (.inr (.inl rfl))), h.post, fun x hx => ⟨h.F x hx, h.post.lt x hx⟩⟩
theorem DStep.refl (h : DiskP q w) : DStep q w q w := ⟨Writes.refl _ _, h, rfl, .inl rfl, .inl rfl, fun k p hp _ hx => .inl (.inr (.inr (.inr ⟨k, p, hp, hx⟩)))⟩
theorem DStep.trans (h : DStep q w q' w') (h' : DStep q' w' q'' w'') : DStep q w q'' w'' := by
  have hs := h.wrt.size
  refine ⟨h.wrt.then_ h'.wrt (fun k hk e => ?_), h'.post, h'.g.trans h.g, ?_, ?_, fun k p hp x hx => ?_⟩
  · simp only [List.mem_cons, Option.some.injEq, List.not_mem_nil, or_false] at e ⊢
    rcases e with rfl | rfl | rfl
    · exact .inl h.g
    · rcases h.md with e | e
      · exact .inr (.inl e)
      · omega
    · rcases h.mw with e | e
      · exact .inr (.inr e)
      · omega
  · rcases h'.md with e | e
    · rw [e]; exact h.md
    · exact .inr (by omega)
  · rcases h'.mw with e | e
    · rw [e]; exact h.mw
    · exact .inr (by omega)
  · rcases h'.foot k p hp x hx with e | e
    · exact h.F x e
    · exact .inr (by omega)
/-- New blocks alone, behind a step. -/
theorem DStep.below (h : DStep q w q' w') (hb : Below w'.heap.size w' w'') : DStep q w q' w'' := h.trans ⟨Writes.of_below hb _, h.post.below hb, rfl, .inl rfl, .inl rfl, fun k p hp _ hx => .inl (.inr (.inr (.inr ⟨k, p, hp, hx⟩)))⟩
theorem DStep.ahead (hq : DiskP q w) (hb : Below w.heap.size w w') (h : DStep q w' q' w'') : DStep q w q' w'' :=
  (show DStep q w q w' from ⟨Writes.of_below hb _, hq.below hb, rfl, .inl rfl, .inl rfl, fun k p hp _ hx => .inl (.inr (.inr (.inr ⟨k, p, hp, hx⟩)))⟩).trans h
/-- Bytes that lie anywhere stay. -/
theorem DStep.bytes (h : DStep q w q' w') (hq : DiskP q w) {A : Option Addr} {l : List UInt8} (hb : RowAt w A (l.map byteV)) : RowAt w' A (l.map byteV) := fun hn => by
  have hl : l ≠ [] := by simpa using hn
  obtain ⟨b, off, e, hc⟩ := hb hn
  refine ⟨b, off, e, fun j u hu => ?_⟩
  rw [← hc j u hu]
  have hlt : b < w.heap.size := cell_lt (hc j u hu)
  obtain ⟨a1, a2, a3⟩ := byte_apart hq hb hl (x := b) (by rw [e]; rfl)
  exact World.cell?_of_block (h.wrt.block b hlt (by simp; exact ⟨a1, a2, a3⟩))
end
theorem DiskP.md_ne {q : DR} {w : World} (h : DiskP q w) : q.md ≠ q.g ∧ q.mw ≠ q.g := by
  have hg : w.heap[q.g]? = some (.cells q.cells 71 (0, 0)) := h.hold
  constructor
  · intro e
    obtain ⟨⟨n, D, _, ⟨es, clock, hm, _⟩, _⟩, _⟩ := h.md
    rw [e, hg] at hm
    cases hm
  · intro e
    obtain ⟨⟨n, D, _, ⟨es, clock, hm, _⟩, _⟩, _⟩ := h.mw
    rw [e, hg] at hm
    cases hm
/-- Only the struct itself has been written. -/
theorem DiskP.turn {q : DR} {w w' : World} (h : DiskP q w) (hw : Writes [some q.g] w w') (d c : Bool) (l : Nat) (hl : l ≤ 9223372036854775807) (hh : Holds w' q.g 71 (DR.cells { q with dead := d, cut := c, left := l })) : DStep q w { q with dead := d, cut := c, left := l } w' := by
  obtain ⟨n1, n2⟩ := h.md_ne
  refine ⟨hw.more (by simp), ⟨hh, h.md.loc (hw.block _ h.md.lt (by simp; exact n1)), h.mw.loc (hw.block _ h.mw.lt (by simp; exact n2)), fun k p hp => ?_, h.key, h.ne, h.n1, h.n2, h.s1, h.s2, hl⟩, rfl, .inl rfl, .inl rfl, fun k p hp _ hx => .inl (.inr (.inr (.inr ⟨k, p, hp, hx⟩)))⟩
  obtain ⟨h1, h2, h3⟩ := h.pay k p hp
  refine ⟨h1.loc (fun x hx => ?_), h2, h3⟩
  have hne : p.l ≠ [] := by intro e; rw [e] at h2; have := h.s1; simp at h2; omega
  exact hw.block x (h1.lt (by have := h.s1; omega) hx) (by simp; exact (byte_apart h h1 hne hx).1)

def DR.powered (q : DR) : DR := if q.cut = true then (if q.left = 0 then { q with cut := false, dead := true } else { q with left := q.left - 1 }) else q
set_option maxRecDepth 100000 in
set_option maxHeartbeats 1000000 in
theorem power_any (w : World) (q : DR) (h : DiskP q w) :
    Calls Tryz.prog 68 #[.pointer (some ⟨q.g, 0, none⟩)] w fun e w' => e = .returned (.bool (!q.powered.dead)) ∧ DStep q w q.powered w' := by
  have f4 := h.f4
  have f5 := h.f5
  have f6 := h.f6
  have z4 := h.hold.frozen 4
  have z5 := h.hold.frozen 5
  have z6 := h.hold.frozen 6
  have hlm := h.left
  cases hc : q.cut with
  | false =>
    have hp : Hid (q.powered = q) := Lib.hid (by unfold DR.powered; rw [hc]; rfl)
    rw [hc] at f5
    clear hc
    go_enter Tryz.func68, Tryz.ntmps68
    go_wp2_with fail
    go_ret
    exact ⟨by rw [hp.out]; rfl, by rw [hp.out]; exact DStep.refl h⟩
  | true =>
    rw [hc] at f5
    by_cases hz : q.left = 0
    · have hp : Hid (q.powered = { q with dead := true, cut := false, left := q.left }) := Lib.hid (by unfold DR.powered; rw [if_pos hc, if_pos hz])
      have hz0 : ((q.left : Int) == 0) = true := by simp [hz]
      have hst : Hid (DStep q w { q with dead := true, cut := false, left := q.left } ((w.setCell ⟨q.g, 5, none⟩ (.bool false)).setCell ⟨q.g, 4, none⟩ (.bool true))) := Lib.hid (h.turn ((Writes.store w (p := ⟨q.g, 5, none⟩) (by simp) (.bool false)).trans (Writes.store _ (p := ⟨q.g, 4, none⟩) (by simp) (.bool true))) true false q.left hlm ((h.hold.store 5 (.bool false)).store 4 (.bool true)))
      clear hc hz
      go_enter Tryz.func68, Tryz.ntmps68
      go_wp2_with fail
      go_ret
      exact ⟨by rw [hp.out]; rfl, by rw [hp.out]; exact hst.out⟩
    · have hp : Hid (q.powered = { q with dead := q.dead, cut := true, left := q.left - 1 }) := Lib.hid (by unfold DR.powered; rw [if_pos hc, if_neg hz, ← hc])
      have hz0 : ((q.left : Int) == 0) = false := by simp [hz]
      have hz1 : 1 ≤ q.left := by omega
      have hst : Hid (DStep q w { q with dead := q.dead, cut := true, left := q.left - 1 } (w.setCell ⟨q.g, 6, none⟩ (.int .i64 ((q.left - 1 : Nat) : Int)))) := Lib.hid (h.turn (Writes.store w (p := ⟨q.g, 6, none⟩) (by simp) _) q.dead true (q.left - 1) (by omega) (by
        have := h.hold.store 6 (.int .i64 ((q.left - 1 : Nat) : Int))
        simpa [DR.cells, hc] using this))
      have hsub : Hid (((q.left - 1 : Nat) : Int) = (q.left : Int) - 1) := Lib.hid (by omega)
      clear hc hz
      go_enter Tryz.func68, Tryz.ntmps68
      go_wp2_with fail
      go_ret
      exact ⟨by rw [hp.out]; rfl, by rw [hp.out]; rw [← hsub.out]; exact hst.out⟩

/-- Bytes are laid into the map of what was written. -/
theorem DiskP.put {q : DR} {w : World} (h : DiskP q w) {B : Nat} {l : List UInt8} {v : Value} (ho : w.ownsRow B 5 1 v l.length (l.map byteV)) (hl : l.length = q.size) {i : Int} (hi : 0 ≤ i ∧ i < q.n) :
    ∃ w2 p, (Instr.mapUpdate 67 (.map (some q.mw)) (.int .i64 i) v).run Tryz.prog w = .ok () w2 ∧ p.l = l ∧ (∀ x, blk p.A = some x → B ≤ x) ∧ DiskP { q with wr := fun j => if j = i then some p else q.wr j } w2 ∧ Writes [some q.mw] w w2 := by
  have hn2 := h.n2
  obtain ⟨w2, hrun, hm, hg, hsz⟩ := h.mw.store (k := i) ⟨hi.1, by omega⟩ v
  have hw : Writes [some q.mw] w w2 := Writes.of_grown hg (by simp)
  obtain ⟨m1, m2⟩ := h.md_ne
  obtain ⟨A, c, rfl, hr, _, hc⟩ := own_row ho
  have hblk : ∀ x, blk A = some x → B ≤ x ∧ x < w.heap.size ∧ x ≠ q.mw := by
    intro x hx
    rcases ho.2 with ⟨e, e2⟩ | ⟨g, cap, cur, e, hB, hh, _⟩
    · simp at e
      obtain ⟨rfl, _⟩ := e
      simp [blk] at hx
    · simp at e
      obtain ⟨rfl, _⟩ := e
      simp [blk] at hx
      subst hx
      refine ⟨hB, (Array.getElem?_eq_some_iff.1 hh).1, ?_⟩
      rintro rfl
      obtain ⟨⟨n, D, _, ⟨es, clock, hm, _⟩, _⟩, _⟩ := h.mw
      rw [hm] at hh
      cases hh
  refine ⟨w2, ⟨A, c, l⟩, hrun, rfl, fun x hx => (hblk x hx).1, ⟨hw.holds h.hold (by simp; exact fun e => m2 e.symm), h.md.loc (hw.block _ h.md.lt (by simp; exact h.ne)), ?_, fun k p hp => ?_, fun k p hp => ?_, h.ne, h.n1, h.n2, h.s1, h.s2, h.left⟩, hw⟩
  · have e : (fun k => Option.map Pay.val (if k = i then some (⟨A, c, l⟩ : Pay) else q.wr k)) = fun j => if j = i then some (Value.slice A l.length c) else (q.wr j).map Pay.val := by
      funext k
      by_cases e : k = i
      · simp [e, Pay.val]
      · simp [e]
    show IMap w2 q.mw (fun k => Option.map Pay.val (if k = i then some (⟨A, c, l⟩ : Pay) else q.wr k))
    rw [e]
    exact hm
  · have old : ∀ k p, q.has k p → PayAt w2 p ∧ p.l.length = q.size ∧ p.l.length ≤ p.c := by
      intro k p hp
      obtain ⟨h1, h2, h3⟩ := h.pay k p hp
      refine ⟨h1.loc (fun x hx => ?_), h2, h3⟩
      have hne : p.l ≠ [] := by intro e; rw [e] at h2; have := h.s1; simp at h2; omega
      exact hw.block x (h1.lt (by have := h.s1; omega) hx) (by simp; exact (byte_apart h h1 hne hx).2.2)
    rcases hp with hp | hp
    · exact old k p (.inl hp)
    · simp only at hp
      by_cases e : k = i
      · rw [if_pos e] at hp
        injection hp with hp
        subst hp
        refine ⟨?_, hl, hc⟩
        exact PayAt.loc (p := ⟨A, c, l⟩) hr.rowAt (fun x hx => hw.block x (hblk x hx).2.1 (by simp; exact (hblk x hx).2.2))
      · rw [if_neg e] at hp
        exact old k p (.inr hp)
  · rcases hp with hp | hp
    · exact h.key k p (.inl hp)
    · simp only at hp
      by_cases e : k = i
      · rw [e]; exact hi
      · rw [if_neg e] at hp
        exact h.key k p (.inr hp)
def DR.wrote (q : DR) (i : Int) (p : Pay) : DR := { q with wr := fun j => if j = i then some p else q.wr j }
/-- A sector is written, or the error's number is told. -/
def WriteE (q : DR) (i : Int) (l : List UInt8) (w : World) (e : Ending) (w' : World) : Prop :=
  if q.dead = true then e = .returned (.int .i64 32) ∧ w' = w
  else if i < 0 ∨ (q.n : Int) ≤ i then e = .returned (.int .i64 30) ∧ w' = w
  else if l.length ≠ q.size then e = .returned (.int .i64 31) ∧ w' = w
  else if q.powered.dead = true then e = .returned (.int .i64 32) ∧ DStep q w q.powered w'
  else e = .returned (.int .i64 0) ∧ ∃ p, p.l = l ∧ DStep q w (q.powered.wrote i p) w'
theorem powered_n (q : DR) : q.powered.n = q.n ∧ q.powered.size = q.size ∧ q.powered.g = q.g ∧ q.powered.mw = q.mw ∧ q.powered.md = q.md ∧ q.powered.wr = q.wr ∧ q.powered.dur = q.dur := by
  unfold DR.powered
  split
  · split <;> exact ⟨rfl, rfl, rfl, rfl, rfl, rfl, rfl⟩
  · exact ⟨rfl, rfl, rfl, rfl, rfl, rfl, rfl⟩
set_option maxRecDepth 100000 in
set_option maxHeartbeats 2000000 in
theorem write_any (w : World) (q : DR) (h : DiskP q w) (i : Int) (hi : -9223372036854775808 ≤ i ∧ i ≤ 9223372036854775807) (A : Option Addr) (n c : Nat) (l : List UInt8) (hn : l.length = n) (hm : n ≤ 100000000) (hb : RowAt w A (l.map byteV)) :
    Calls Tryz.prog 132 #[.pointer (some ⟨q.g, 0, none⟩), .int .i64 i, .slice A n c] w (WriteE q i l w) := by
  have f4 := h.f4
  have f0 := h.f0
  have f1 := h.f1
  have n1 := h.n1
  have n2 := h.n2
  have s1 := h.s1
  have s2 := h.s2
  cases hd : q.dead with
  | true =>
    rw [hd] at f4
    have hd' := Lib.hid hd
    clear hd
    go_enter Tryz.func132, Tryz.ntmps132
    go_wp2_with fail
    go_ret
    unfold WriteE
    rw [if_pos hd'.out]
    exact ⟨rfl, rfl⟩
  | false =>
    rw [hd] at f4
    have hd' := Lib.hid hd
    clear hd
    have hdn : Hid (¬ q.dead = true) := Lib.hid (by rw [hd'.out]; simp)
    by_cases h0 : i < 0
    · go_enter Tryz.func132, Tryz.ntmps132
      go_wp2_with fail
      go_ret
      unfold WriteE
      rw [if_neg hdn.out, if_pos (.inl h0)]
      exact ⟨rfl, rfl⟩
    by_cases h1 : (q.n : Int) ≤ i
    · go_enter Tryz.func132, Tryz.ntmps132
      go_wp2_with fail
      go_ret
      unfold WriteE
      rw [if_neg hdn.out, if_pos (.inr h1)]
      exact ⟨rfl, rfl⟩
    have hin : Hid (¬ (i < 0 ∨ (q.n : Int) ≤ i)) := Lib.hid (by omega)
    by_cases h2 : n = q.size
    case neg =>
      have h2' := Lib.hid h2
      have hq : ((n : Int) == (q.size : Int)) = false := by simp; omega
      have hq2 : ((n : Int) != (q.size : Int)) = true := by simp; omega
      clear h2
      go_enter Tryz.func132, Tryz.ntmps132
      go_wp2_with fail
      go_ret
      unfold WriteE
      rw [if_neg hdn.out, if_neg hin.out, if_pos (by rw [hn]; exact h2'.out)]
      exact ⟨rfl, rfl⟩
    subst h2
    have hn' := Lib.hid hn
    clear hn
    go_enter Tryz.func132, Tryz.ntmps132
    go_wp2_with fail
    refine (power_any w q h).mono ?_
    rintro e wr ⟨rfl, hst⟩
    cases hpd : q.powered.dead with
    | true =>
      have hpd' := Lib.hid hpd
      clear hpd
      go_wp2_with fail
      go_ret
      unfold WriteE
      rw [if_neg hdn.out, if_neg hin.out, if_neg (by rw [hn'.out]; simp), if_pos hpd'.out]
      exact ⟨rfl, hst⟩
    | false =>
      have hpd' := Lib.hid hpd
      clear hpd
      obtain ⟨e1, e2, e3, e4, e5, e6, e7⟩ := powered_n q
      have hq := hst.post
      have hbr := Lib.hid (hst.bytes h hb)
      generalize hq1 : q.powered = q1 at *
      have hq1' := Lib.hid hq1
      have hst' := Lib.hid hst
      have hD := Lib.hid hq
      have hg1 := Lib.hid e3
      have hs1 := Lib.hid e2
      have hN1 := Lib.hid e1
      clear hq1 hst hq e1 e2 e3 e4 e5 e6 e7 f0 f1 f4
      go_wp2_with fail
      -- THE REGION THAT DRAWS ITS ORDER, BY ONE LEXICAL WALK OVER GENERIC VALUES (written by relgen.py)
      refine wp_region_tabL ((fun _ _ v => v = .pointer (some ⟨q.g, 0, none⟩)) ::
        (fun _ _ v => v = .pointer (some ⟨q.g, 0, none⟩)) ::
        (fun _ _ v => v = .pointer (some ⟨q.g, 0, none⟩)) ::
        (fun _ _ v => v = .pointer (some ⟨q.g, 3, none⟩)) ::
        (fun _ _ v => v = .map (some q1.mw)) ::
        (fun _ _ v => v = .int .i64 i) ::
        (fun _ _ v => v = .slice A q.size c) ::
        (fun L w v => Till 8 (fun w v => w.ownsRow wr.heap.size 5 1 v l.length (l.map byteV)) L w v) ::
        (fun _ _ _ => True) :: [])
        (⟨[(0, none)], 0, [8]⟩ :: ⟨[(33, some 0)], 0, [8]⟩ :: ⟨[(34, some 1)], 0, [8]⟩ :: ⟨[(35, some 2)], 0, [8]⟩ :: ⟨[(36, some 3)], 0, [8]⟩ :: ⟨[(1, none)], 0, [8]⟩ :: ⟨[(2, none)], 0, [8]⟩ :: ⟨[(39, some 6)], 0, [8]⟩ :: ⟨[(37, some 4), (38, some 5), (40, some 7)], 0, []⟩ :: [])
        (none :: none :: none :: none :: none :: none :: none :: none :: none :: none :: none :: none :: none :: none :: none :: none :: none :: none :: none :: none :: none :: none :: none :: none :: none :: none :: none :: none :: none :: none :: none :: none :: none :: some 0 :: some 1 :: some 2 :: some 3 :: some 4 :: some 5 :: some 6 :: some 7 :: [])
        (fun L w' => CS 8 7 wr (fun w' => ∃ p, p.l = l ∧ (∀ x, blk p.A = some x → wr.heap.size ≤ x) ∧ DiskP (q1.wrote i p) w' ∧ Writes [some q1.mw] wr w') L w') (fun i w w' => i ≠ 7 → i ≠ 8 → Below w.heap.size w w') ?mixK9write9 ?okK9write9 ?tabK9write9 ?frK9write9 ?inK9write9 ?keptK9write9 ?startK9write9 ?eachK9write9 ?finK9write9
      case mixK9write9 => kernel_rfl
      case okK9write9 => kernel_rfl
      case tabK9write9 => kernel_rfl
      case frK9write9 => kernel_rfl
      case inK9write9 => rfl
      case keptK9write9 => exact ⟨fun _ _ _ _ _ _ _ _ _ _ _ h => h, fun _ _ _ _ _ _ _ _ _ _ _ h => h, fun _ _ _ _ _ _ _ _ _ _ _ h => h, fun _ _ _ _ _ _ _ _ _ _ _ h => h, fun _ _ _ _ _ _ _ _ _ _ _ h => h, fun _ _ _ _ _ _ _ _ _ _ _ h => h, fun _ _ _ _ _ _ _ _ _ _ _ h => h, fun i hne hrd L w w' v hLi hC hC' hG h => Till.keepN h hne hG (fun hb h => own_below h hb), fun _ _ _ _ _ _ _ _ _ _ _ h => h, trivial⟩
      case startK9write9 => exact ⟨fun _ => (Below.refl _ _).drew, fun e => by simp at e⟩
      case eachK9write9 =>
        refine ⟨?_, ?_, ?_, ?_, ?_, ?_, ?_, ?_, ?_, trivial⟩
        -- 0: slot 33 := move t0
        · intro w L f hC hLi hLd hLn hF
          obtain ⟨d0, _⟩ := hF
          have d0 : f 0 = .pointer (some ⟨q.g, 0, none⟩) := d0
          refine Step2.live rfl ?_
          exact relUpon_value (v := f 0) rfl (hC.go (i := 0) (hLn 8 (by simp)) (by decide) (Below.refl _ _)) (fun _ _ => Below.refl _ _) d0
        -- 1: slot 34 := nilCheck t33
        · intro w L f hC hLi hLd hLn hF
          obtain ⟨d33, _⟩ := hF
          have d33 : f 33 = .pointer (some ⟨q.g, 0, none⟩) := d33
          refine Step2.live rfl ?_
          have ev : ∀ t, evalOf f (.tmp t) = f t := fun _ => rfl
          have ec : ∀ c, evalOf f (.const c) = c := fun _ => rfl
          have ef : ∀ g, evalOf f (.func g) = .func (.func g) #[] #[] := fun _ => rfl
          refine relUpon_value ?_ (hC.go (i := 1) (hLn 8 (by simp)) (by decide) (Below.refl _ _)) (fun _ _ => Below.refl _ _) rfl
          go_simp
        -- 2: slot 35 := fieldAddr 71 t34 0
        · intro w L f hC hLi hLd hLn hF
          obtain ⟨d34, _⟩ := hF
          have d34 : f 34 = .pointer (some ⟨q.g, 0, none⟩) := d34
          refine Step2.live rfl ?_
          have ev : ∀ t, evalOf f (.tmp t) = f t := fun _ => rfl
          have ec : ∀ c, evalOf f (.const c) = c := fun _ => rfl
          have ef : ∀ g, evalOf f (.func g) = .func (.func g) #[] #[] := fun _ => rfl
          refine relUpon_value ?_ (hC.go (i := 2) (hLn 8 (by simp)) (by decide) (Below.refl _ _)) (fun _ _ => Below.refl _ _) rfl
          go_simp
        -- 3: slot 36 := fieldAddr 69 t35 3
        · intro w L f hC hLi hLd hLn hF
          obtain ⟨d35, _⟩ := hF
          have d35 : f 35 = .pointer (some ⟨q.g, 0, none⟩) := d35
          refine Step2.live rfl ?_
          have ev : ∀ t, evalOf f (.tmp t) = f t := fun _ => rfl
          have ec : ∀ c, evalOf f (.const c) = c := fun _ => rfl
          have ef : ∀ g, evalOf f (.func g) = .func (.func g) #[] #[] := fun _ => rfl
          refine relUpon_value ?_ (hC.go (i := 3) (hLn 8 (by simp)) (by decide) (Below.refl _ _)) (fun _ _ => Below.refl _ _) rfl
          go_simp
        -- 4: slot 37 := load 67 t36
        · intro w L f hC hLi hLd hLn hF
          obtain ⟨d36, _⟩ := hF
          have d36 : f 36 = .pointer (some ⟨q.g, 3, none⟩) := d36
          refine Step2.live rfl ?_
          have f3 := (hD.out.below (hC.bel (hLn 8 (by simp)))).f3
          rw [hg1.out] at f3
          have ev : ∀ t, evalOf f (.tmp t) = f t := fun _ => rfl
          have ec : ∀ c, evalOf f (.const c) = c := fun _ => rfl
          have ef : ∀ g, evalOf f (.func g) = .func (.func g) #[] #[] := fun _ => rfl
          refine relUpon_value ?_ (hC.go (i := 4) (hLn 8 (by simp)) (by decide) (Below.refl _ _)) (fun _ _ => Below.refl _ _) rfl
          go_simp
        -- 5: slot 38 := move t1
        · intro w L f hC hLi hLd hLn hF
          obtain ⟨d1, _⟩ := hF
          have d1 : f 1 = .int .i64 i := d1
          refine Step2.live rfl ?_
          exact relUpon_value (v := f 1) rfl (hC.go (i := 5) (hLn 8 (by simp)) (by decide) (Below.refl _ _)) (fun _ _ => Below.refl _ _) d1
        -- 6: slot 39 := move t2
        · intro w L f hC hLi hLd hLn hF
          obtain ⟨d2, _⟩ := hF
          have d2 : f 2 = .slice A q.size c := d2
          refine Step2.live rfl ?_
          exact relUpon_value (v := f 2) rfl (hC.go (i := 6) (hLn 8 (by simp)) (by decide) (Below.refl _ _)) (fun _ _ => Below.refl _ _) d2
        -- 7: slot 40 := call { value (Operand.func 76), args := #[t39], argTypes := #[37] }
        · intro w L f hC hLi hLd hLn hF
          obtain ⟨d39, _⟩ := hF
          have d39 : f 39 = .slice A q.size c := d39
          refine Step2.live rfl ?_
          have ev : ∀ t, evalOf f (.tmp t) = f t := fun _ => rfl
          have ec : ∀ c, evalOf f (.const c) = c := fun _ => rfl
          have ef : ∀ g, evalOf f (.func g) = .func (.func g) #[] #[] := fun _ => rfl
          refine relUpon_call (f := 76) (args := #[.slice A q.size c]) (w := w) (by go_simp) (clone_any w A q.size c l hn'.out (by omega) (((hbr.out.row).below (hC.bel (hLn 8 (by simp)))).rowAt)) ?_
          rintro e w1 ⟨⟨v, he, hv⟩, hB⟩
          exact ⟨v, he, hC.go (i := 7) (hLn 8 (by simp)) (by decide) hB, fun h => absurd rfl h, fun _ => own_base hv (hC.bel (hLn 8 (by simp))).size⟩
        -- 8: slot None := mapUpdate 67 t37 t38 t40
        · intro w L f hC hLi hLd hLn hF
          obtain ⟨d37, d38, d40, _⟩ := hF
          have d37 : f 37 = .map (some q1.mw) := d37
          have d38 : f 38 = .int .i64 i := d38
          refine Step2.live rfl ?_
          have ho := d40 hLi
          have hDw := hD.out.below (hC.bel hLi)
          obtain ⟨w2, p, hrun, hp1, hp2, hp3, hp4⟩ := hDw.put ho (hn'.out.trans hs1.out.symm) (i := i) ⟨by omega, by have := hN1.out; omega⟩
          have ev : ∀ t, evalOf f (.tmp t) = f t := fun _ => rfl
          have ec : ∀ c, evalOf f (.const c) = c := fun _ => rfl
          have ef : ∀ g, evalOf f (.func g) = .func (.func g) #[] #[] := fun _ => rfl
          refine relUpon_skip (w' := w2) ?_ (CS.last (hLd 7 (by decide)) ⟨p, hp1, hp2, hp3, (Writes.of_below (hC.bel hLi) _).trans hp4⟩) (fun _ h => absurd rfl h) trivial
          go_simp
      intro x w' hC hV

      obtain ⟨p, hp1, hp2, hp3, hp4⟩ := (hC.2 rfl).2
      clear hV
      simp only [framed]
      go_wp2_with fail
      go_ret
      unfold WriteE
      rw [if_neg hdn.out, if_neg hin.out, if_neg (by rw [hn'.out]; simp), hq1'.out, if_neg (by rw [hpd'.out]; simp)]
      refine ⟨rfl, p, hp1, hst'.out.trans ⟨hp4.more (by simp), hp3, rfl, .inl rfl, .inl rfl, fun k p' hp' x hx => ?_⟩⟩
      rcases hp' with hp' | hp'
      · exact .inl (.inr (.inr (.inr ⟨k, p', .inl hp', hx⟩)))
      · simp only [DR.wrote] at hp'
        by_cases e : k = i
        · rw [if_pos e] at hp'
          injection hp' with hp'
          subst hp'
          exact .inr (hp2 x hx)
        · rw [if_neg e] at hp'
          exact .inl (.inr (.inr (.inr ⟨k, p', .inr hp', hx⟩)))
end Go.Proofs.YtelglbblgkhcmaaGreat
