/-
  Crashes, cuts, two logs beside one another, records of two slices: for the statements about logs.
-/
import Derived.Test.YtelglbblgkhcmaaGreatWg
import Derived.Test.YtelglbblgkhcmaaGreatDkH
namespace Go.Proofs.YtelglbblgkhcmaaGreat
open Go.RowKit Go.Deep

section
variable {B n s : Nat} {l l' : LR} {q q' : DR} {w w' : World} {all : List (List UInt8)}
/-- A disk behind a crash: of each sector what was sure, or what was written. -/
structure Crashed (q : DR) (q' : DR) : Prop where
  mix : Mix q.abs q'.abs.last
  wr : q'.abs.wr = fun _ => none
  dead : q'.dead = false
  cut : q'.cut = false
  n : q'.n = q.n
  size : q'.size = q.size
theorem crash_law (h : DiskP q w) (keep : Nat) (hkeep : keep < 18446744073709551616) (torn at_ : Int) (ht : -9223372036854775808 ≤ torn ∧ torn ≤ 9223372036854775807) :
    Calls Tryz.prog 24 #[.pointer (some ⟨q.g, 0, none⟩), .int .u64 keep, .int .i64 torn, .int .i64 at_] w fun e w' => e = .returned (.tuple #[]) ∧ ∃ q', DStep q w q' w' ∧ Crashed q q' := by
  refine (crash_any w q h keep hkeep torn at_ ht (min (max at_ 0) q.size).toNat (by omega)).mono fun e w' hE => ?_
  obtain ⟨rfl, ks, kp, mk, hks, hkp, hkv, hst⟩ := hE
  refine ⟨rfl, _, hst, ⟨fun i => ?_, rfl, rfl, rfl, rfl, rfl⟩⟩
  have hl : (q.crashed mk kp).abs.last i = match kp i with | some p => p.l | none => q.safe i := by
    rw [abs_last]
    unfold DR.last DR.safe DR.crashed
    simp only
    cases kp i <;> rfl
  rw [hl]
  cases hk : kp i with
  | none => exact .inl rfl
  | some p =>
    have hmem : i ∈ ks := (hkp i).1 (by rw [hk]; simp)
    obtain ⟨k, hkl, rfl⟩ := List.getElem_of_mem hmem
    have hp := hkv k hkl p hk
    have hwr : q.wr ks[k] ≠ none := by
      intro e
      have h2 : (q.wr ks[k]).map Pay.val ≠ none := (hks.2 _).1 hmem
      rw [e] at h2
      exact h2 rfl
    show p.l = q.safe ks[k] ∨ q.abs.wr ks[k] = some p.l ∨ ∃ l a, q.abs.wr ks[k] = some l ∧ p.l = tornB l (q.safe ks[k]) a
    rw [hp]
    have hla : (q.wr ks[k]).map (·.l) = some (q.last ks[k]) := by
      unfold DR.last
      cases hw : q.wr ks[k] with
      | none => exact absurd hw hwr
      | some p => rfl
    unfold crashB
    split
    · exact .inr (.inr ⟨_, _, hla, rfl⟩)
    split
    · exact .inr (.inl hla)
    · exact .inl rfl
/-- A failure of power is laid for later. -/
theorem cut_law (h : DiskP q w) (k : Int) (hk : 0 ≤ k ∧ k ≤ 1000000) :
    Calls Tryz.prog 23 #[.pointer (some ⟨q.g, 0, none⟩), .int .i64 k] w fun e w' => e = .returned (.tuple #[]) ∧ ∃ q', DStep q w q' w' ∧ q'.abs.last = q.abs.last ∧ q'.abs.wr = q.abs.wr ∧ q'.dead = q.dead ∧ q'.n = q.n ∧ q'.size = q.size := by
  refine (cut_any w q h k (by omega)).mono fun e w' hE => ?_
  obtain ⟨rfl, hst⟩ := hE
  exact ⟨rfl, _, hst, rfl, rfl, rfl, rfl, rfl⟩
/-- A log behind a cut stands. -/
theorem LogS.cut (h : LogS n s l q w all) (hst : DStep q w q' w') (h1 : q'.abs.last = q.abs.last) (h2 : q'.abs.wr = q.abs.wr) (h3 : q'.dead = q.dead) (h4 : q'.n = q.n) (h5 : q'.size = q.size) : LogS n s l q' w' all :=
  ⟨h.log.dstep h.disk hst, hst.post, h3.trans h.dead, h4.trans h.hn, h5.trans h.hsz, h2.trans h.wr, by rw [h1]; exact h.good⟩
/-- Any bytes are opened, where no write waits; they stay. -/
theorem open_still (hn1 : 16 ≤ q.n) (hs : 128 ≤ q.size) (hq : DiskP q w) (hd : q.dead = false) (hw : q.abs.wr = fun _ => none) :
    Calls Tryz.prog 27 #[.pointer (some ⟨q.g, 0, none⟩)] w fun e w' => (∃ v, e = .returned v) ∧ ∃ q', DStep q w q' w' ∧ q'.abs.last = q.abs.last ∧ q'.abs.wr = (fun _ => none) ∧ q'.n = q.n ∧ q'.size = q.size := by
  refine (open_any w q hq hn1 hs).mono fun e w' hO => ?_
  have hfl : q.abs.flush.1.last = q.abs.last ∧ q.abs.flush.1.wr = fun _ => none := by
    unfold AD.flush
    rw [if_neg (by simp [show q.abs.dead = false from hd])]
    by_cases e : q.abs.powered.dead = true
    · rw [if_pos e]
      exact ⟨(powered_eq q.abs).2.2.1, (powered_eq q.abs).2.1.trans hw⟩
    · rw [if_neg e]
      refine ⟨?_, rfl⟩
      funext j
      show q.abs.powered.last j = _
      rw [(powered_eq q.abs).2.2.1]
  have hsm := AD.flush_s q.abs
  unfold OpenE at hO
  split at hO
  · obtain ⟨rfl, q', hst, hab⟩ := hO
    exact ⟨⟨_, rfl⟩, q', hst, by rw [hab]; exact hfl.1, by rw [hab]; exact hfl.2, by rw [← hab] at hsm; exact hsm.n, by rw [← hab] at hsm; exact hsm.size⟩
  · obtain ⟨q', g, v, ps, rfl, hst, hab, _⟩ := hO
    exact ⟨⟨_, rfl⟩, q', hst, by rw [hab]; exact hfl.1, by rw [hab]; exact hfl.2, by rw [← hab] at hsm; exact hsm.n, by rw [← hab] at hsm; exact hsm.size⟩
/-- What a put leaves behind a crash, whichever way it ended. -/
theorem PutR.crashed {h0 : Hdr} {ls next : List (List UInt8)} {code : Nat} {q2 : DR} (h : PutR q.abs l h0 ls all next n s (q'.abs, l', code)) (hS : LogS n s l q w all) (hc : Crashed q' q2) : ∃ h' slot' all', Good q2.abs.last n s h' slot' all' ∧ h'.serial ≤ l.serial + 2 ∧ ((all' = next ∧ (code = 0 ∨ code = 32)) ∨ (all' = all ∧ code ≠ 0)) := by
  have hx : ∀ {k : Nat}, k ≠ 0 → ((q'.abs, l', code) : AD × LR × Nat) = (q.abs, l, k) → ∃ h' slot' all', Good q2.abs.last n s h' slot' all' ∧ h'.serial ≤ l.serial + 2 ∧ ((all' = next ∧ (code = 0 ∨ code = 32)) ∨ (all' = all ∧ code ≠ 0)) := fun hk e => by
    have e1 : q'.abs = q.abs := congrArg (fun x => x.1) e
    have e3 := congrArg (fun x => x.2.2) e
    simp only at e3
    have hm := hc.mix
    rw [e1] at hm
    rw [settled_mix hS.wr hm]
    exact ⟨l.hdr, l.slot, all, hS.good, by show l.serial ≤ _; omega, .inr ⟨rfl, by omega⟩⟩
  cases h with
  | long h1 _ => exact hx (by omega) h1
  | full h1 _ _ => exact hx (by omega) h1
  | done h1 _ _ _ _ h6 h7 _ h9 =>
    have hm := settled_mix h6 hc.mix
    rw [hm]
    exact ⟨_, _, next, h7, h9, .inl ⟨rfl, .inl h1⟩⟩
  | dead h1 _ _ _ h5 =>
    have h1 : code = 32 := h1
    rcases h5 _ hc.mix with h | ⟨h', slot', h6, h7⟩
    · exact ⟨l.hdr, l.slot, all, h, by show l.serial ≤ _; omega, .inr ⟨rfl, by omega⟩⟩
    · exact ⟨h', slot', next, h7, h6, .inl ⟨rfl, .inr h1⟩⟩
theorem PutR.same {h0 : Hdr} {ls next : List (List UInt8)} {code : Nat} (h : PutR q.abs l h0 ls all next n s (q'.abs, l', code)) : q'.n = q.n ∧ q'.size = q.size := by
  have hx : ∀ {k : Nat}, ((q'.abs, l', code) : AD × LR × Nat) = (q.abs, l, k) → q'.n = q.n ∧ q'.size = q.size := fun e => by
    have e1 : q'.abs = q.abs := congrArg (fun x => x.1) e
    exact ⟨congrArg AD.n e1, congrArg AD.size e1⟩
  cases h with
  | long h1 _ => exact hx h1
  | full h1 _ _ => exact hx h1
  | done _ _ _ _ h5 => exact ⟨h5.n, h5.size⟩
  | dead _ _ _ h5 => exact ⟨h5.n, h5.size⟩
/-- The blocks of a log and its disk. -/
def FL (l : LR) (q : DR) (x : Nat) : Prop := x = l.g ∨ q.F x
theorem LStep.fl (h : LStep l q w l' q' w') : ∀ x, FL l' q' x → FL l q x ∨ w.heap.size ≤ x := fun x hx => by
  rcases hx with e | e
  · exact .inl (.inl (by rw [e, h.lg]))
  · rcases h.F x e with e | e
    · exact .inl (.inr e)
    · exact .inr e
theorem LStep.touch (h : LStep l q w l' q' w') {x : Nat} (hx : x < w.heap.size) (hn : ¬ FL l q x) : w'.heap[x]? = w.heap[x]? :=
  h.wrt.block x hx (by
    simp only [List.mem_cons, Option.some.injEq, List.not_mem_nil, or_false]
    rintro (e | e | e | e)
    · exact hn (.inl e)
    · exact hn (.inr (.inl e))
    · exact hn (.inr (.inr (.inl e)))
    · exact hn (.inr (.inr (.inr (.inl e)))))
/-- Another log, apart from the blocks that turn, stands. -/
theorem LogS.aside (h : LogS n s l q w all) (hb : ∀ x, x < w.heap.size → FL l q x → w'.heap[x]? = w.heap[x]?) : LogS n s l q w' all := by
  refine ⟨?_, h.disk.loc fun x hx => hb x (h.disk.lt x hx) (.inr hx), h.dead, h.hn, h.hsz, h.wr, h.good⟩
  have hl : Holds w l.g 104 (l.cells q.g) := h.log
  exact (hb l.g h.log.lt (.inl rfl)).trans hl
theorem LogS.lt (h : LogS n s l q w all) : ∀ x, FL l q x → x < w.heap.size := fun x hx => by
  rcases hx with rfl | hx
  · exact h.log.lt
  · exact h.disk.lt x hx
end
/-- Rows of slices, one behind the other. -/
theorem slices_joined {w w' : World} {C : Nat} {v : Value} {k : Nat} {vx vy : List Value} {x y : List (List UInt8)} (ho : w'.ownsRow C 37 1 v k (vx ++ vy)) (hb : Below w.heap.size w w') (hlx : vx.length = x.length) (hly : vy.length = y.length)
    (hx : ∀ i (h : i < x.length), ∃ Ai ci, vx[i]? = some (.slice Ai x[i].length ci) ∧ Bytes w w.heap.size Ai x[i] ∧ x[i].length ≤ maxLen)
    (hy : ∀ i (h : i < y.length), ∃ Ai ci, vy[i]? = some (.slice Ai y[i].length ci) ∧ Bytes w w.heap.size Ai y[i] ∧ y[i].length ≤ maxLen) : ∃ A c, v = .slice A k c ∧ Slices w' w'.heap.size A (x ++ y) ∧ k ≤ c := by
  obtain ⟨A, c, rfl, hr, _, hc⟩ := own_row ho
  refine ⟨A, c, rfl, ⟨vx ++ vy, by simp [hlx, hly], hr, fun i hi => ?_⟩, hc⟩
  rcases Nat.lt_or_ge i x.length with h1 | h1
  · obtain ⟨Ai, ci, e1, e2, e3⟩ := hx i h1
    refine ⟨Ai, ci, ?_, ?_, ?_⟩
    · rw [List.getElem?_append_left (by omega), e1, List.getElem_append_left h1]
    · rw [List.getElem_append_left h1]; exact (Row.below e2 hb).more hb.size
    · rw [List.getElem_append_left h1]; exact e3
  · have h2 : i - x.length < y.length := by rw [List.length_append] at hi; omega
    obtain ⟨Ai, ci, e1, e2, e3⟩ := hy (i - x.length) h2
    refine ⟨Ai, ci, ?_, ?_, ?_⟩
    · rw [List.getElem?_append_right (by omega), hlx, e1, List.getElem_append_right h1]
    · rw [List.getElem_append_right h1]; exact (Row.below e2 hb).more hb.size
    · rw [List.getElem_append_right h1]; exact e3
theorem vals_one {vx : List Value} {x : List (List UInt8)} {w : World} (hlx : vx.length = x.length) (hx : ∀ i (h : i < x.length), ∃ Ai ci, vx[i]? = some (.slice Ai x[i].length ci) ∧ Bytes w w.heap.size Ai x[i] ∧ x[i].length ≤ maxLen) : ∀ u ∈ vx, u.oneCell' = true := fun u hu => by
  obtain ⟨i, hi, rfl⟩ := List.getElem_of_mem hu
  obtain ⟨Ai, ci, e1, _⟩ := hx i (by omega)
  rw [List.getElem?_eq_getElem hi] at e1
  injection e1 with e1
  rw [e1]
  rfl
end Go.Proofs.YtelglbblgkhcmaaGreat
