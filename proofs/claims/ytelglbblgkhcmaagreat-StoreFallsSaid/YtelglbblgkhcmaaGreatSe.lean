/-
  augurlaw5: a store whose power fails: Cut, Crash, and what is told of a store that is down.
-/
import Derived.Test.YtelglbblgkhcmaaGreatSd
namespace Go.Proofs.YtelglbblgkhcmaaGreat
open Go.RowKit Go.Deep Go.Maps

set_option maxRecDepth 100000 in
theorem compact_dead {gs gl mb N : Nat} {F : ByteArray → Option ByteArray} (w : World) (h : Front gs gl mb N F true w) :
    Calls Tryz.prog 20 #[.pointer (some ⟨gs, 0, none⟩)] w fun e w' => e = .returned (.int .i64 32) ∧ w' = w := by
  have c1 : w.cell? ⟨gs, 1, none⟩ = some (.bool true) := h.hold.cell 1
  clear h
  go_enter Tryz.func20, Tryz.ntmps20
  go_wp2_with fail
  go_ret
  exact ⟨rfl, rfl⟩
set_option maxRecDepth 100000 in
theorem apply_dead {gs gl mb N : Nat} {F : ByteArray → Option ByteArray} (w : World) (h : Front gs gl mb N F true w) (v : Value) :
    Calls Tryz.prog 12 #[.pointer (some ⟨gs, 0, none⟩), v] w fun e w' => e = .returned (.int .i64 32) ∧ w' = w := by
  have c1 : w.cell? ⟨gs, 1, none⟩ = some (.bool true) := h.hold.cell 1
  clear h
  go_enter Tryz.func12, Tryz.ntmps12
  go_wp2_with fail
  go_ret
  exact ⟨rfl, rfl⟩
section
variable {B n s mm NM : Nat} {S S' : SR} {w w' : World} {M F2 : ByteArray → Option ByteArray} {q' : DR}
theorem live_dstep (hL : LiveP n s S w) (hst : DStep S.q w q' w') (hlog : LogS n s S.l q' w' S.all) :
    Upd (LiveC n s S) w (LiveC n s ⟨S.gs, S.mb, S.N, S.F, S.l, q', S.all⟩) w' := by
  have hls := LStep.of_dstep hL.log.log hL.log.disk hst
  have hgl := hL.fr.hold.lt
  have hml := SMap.lt hL.fr.map
  have hs1 := hls.wrt.size
  have hh1 : Holds w' S.gs 58 (stV S.l.g false S.mb) := (hls.touch hgl hL.a1).trans hL.fr.hold
  refine ⟨hls.tch.more (fun k _ hk => .inr (.inr hk)), ⟨⟨hh1, SMap.loc hL.fr.map (hls.touch hml hL.a2), hL.fr.ne⟩, hlog, hL.recs, hls.off hgl hL.a1, hls.off hml hL.a2⟩, fun x hx => ⟨?_, ?_⟩⟩
  · rcases hx with rfl | rfl | hx
    · exact .inl (.inl rfl)
    · exact .inl (.inr (.inl rfl))
    · rcases hls.fl x hx with e | e
      · exact .inl (.inr (.inr e))
      · exact .inr e
  · rcases hx with rfl | rfl | hx
    · show S.gs < _; omega
    · show S.mb < _; omega
    · exact hls.fl_lt hx
theorem LiveP.mapped (h : LiveP n s S w) (hm : Mp B S mm NM M w) (hW : Writes [some mm] w w') : LiveP n s S w' :=
  h.loc fun x hx => hW.block x (h.lt x hx) (by
    simp only [List.mem_cons, Option.some.injEq, List.not_mem_nil, or_false]
    rintro rfl
    exact hm.off hx)
theorem pairs_live (hL : LiveP n s S w) (hm : Mp B S mm NM M w) (hB : B ≤ w.heap.size) (i : Nat) (hi : i ≤ 1000) (A : Option Addr) (k c : Nat) (l : List LP) (hl : l.length = k) (hk : k ≤ 1000) (hr : Row w w.heap.size A (l.flatMap LP.cells)) (hN : NM ≤ 100000) :
    Calls Tryz.prog 13 #[.int .i64 i, .slice A k c, .map (some mm)] w fun e w' => ∃ A' c', e = .returned (.slice A' k c') ∧ Row w' w'.heap.size A' ((pairsF i l).flatMap PairR.cells) ∧ LiveP n s S w' ∧ Mp B S mm (NM + k) ((pairsF i l).foldl chg M) w' ∧ Writes [some mm] w w' ∧ Below B w w' := by
  refine (pairs_any w i hi A k c l hl hk hr mm NM M hm.map hN).mono ?_
  rintro e w' ⟨⟨v, rfl, hO⟩, hm', hW⟩
  obtain ⟨A', c', rfl, hr'⟩ : ∃ A' c', v = .slice A' k c' ∧ Row w' w'.heap.size A' ((pairsF i l).flatMap PairR.cells) := by
    rcases hO.2 with ⟨rfl, hk0⟩ | ⟨g, cap, cur, rfl, hg, hb, _, _, _, h6⟩
    · refine ⟨none, 0, ?_, ?_⟩
      · rw [hk0]
      · have h0 : l.length = 0 := by omega
        have : pairsF i l = [] := List.eq_nil_of_length_eq_zero (by rw [pairsF_length]; exact h0)
        rw [this]
        exact Row.nil_ _ _ _
    · refine ⟨some ⟨g, 0, none⟩, cap, rfl, fun hne => ⟨g, 0, rfl, (Array.getElem?_eq_some_iff.1 hb).1, fun j u hu => ?_⟩⟩
      have h7 : (cur.toList.take (k * 3))[j]? = some u := by rw [h6]; exact hu
      rw [List.getElem?_take] at h7
      split at h7
      · rw [Nat.zero_add, cell_of_row _ _ _ _ _ _ hb, ← Array.getElem?_toList]
        exact h7
      · cases h7
  exact ⟨A', c', rfl, hr', hL.mapped hm hW, ⟨hm', hm.off, hm.low⟩, hW, hW.below hB (fun j hj => by simp at hj; rw [hj]; exact hm.low)⟩
/-- A failure of power is laid for later. -/
theorem cut_step (hL : LiveP n s S w) {gd : Nat} (hg : S.q.g = gd) (k : Int) (hk : 0 ≤ k ∧ k ≤ 1000000) :
    Calls Tryz.prog 23 #[.pointer (some ⟨gd, 0, none⟩), .int .i64 k] w fun e w' => e = .returned (.tuple #[]) ∧ ∃ q', Upd (LiveC n s S) w (LiveC n s ⟨S.gs, S.mb, S.N, S.F, S.l, q', S.all⟩) w' ∧ q'.g = gd := by
  subst hg
  refine (cut_law hL.log.disk k hk).mono ?_
  rintro e w' ⟨rfl, q', hst, h1, h2, h3, h4, h5⟩
  exact ⟨rfl, q', live_dstep hL hst (hL.log.cut hst h1 h2 h3 h4 h5), hst.g⟩
/-- A disk behind a crash: one of two stores is on it. -/
structure Ready (n s : Nat) (q q2 : DR) (F1 F2 : ByteArray → Option ByteArray) (K : Nat) (w w' : World) : Prop where
  st : DStep q w q2 w'
  dead : q2.dead = false
  cut : q2.cut = false
  hn : q2.n = n
  hsz : q2.size = s
  good : ∃ h slot all, Good q2.abs.last n s h slot all ∧ h.serial ≤ K ∧ (RecsF all F1 ∨ RecsF all F2)
theorem crash_live (hL : LiveP n s S w) {gd : Nat} (hg : S.q.g = gd) (F2 : ByteArray → Option ByteArray) (keep : Nat) (hkeep : keep < 18446744073709551616) (torn at_ : Int) (ht : -9223372036854775808 ≤ torn ∧ torn ≤ 9223372036854775807) :
    Calls Tryz.prog 24 #[.pointer (some ⟨gd, 0, none⟩), .int .u64 keep, .int .i64 torn, .int .i64 at_] w fun e w' => e = .returned (.tuple #[]) ∧ ∃ q2, Ready n s S.q q2 S.F F2 (S.l.serial + 2) w w' := by
  subst hg
  refine (crash_law hL.log.disk keep hkeep torn at_ ht).mono ?_
  rintro e w' ⟨rfl, q2, hst, hc⟩
  refine ⟨rfl, q2, hst, hc.dead, hc.cut, hc.n.trans hL.log.hn, hc.size.trans hL.log.hsz, S.l.hdr, S.l.slot, S.all, ?_, Nat.le_add_right _ _, .inl hL.recs⟩
  rw [settled_mix hL.log.wr hc.mix]
  exact hL.log.good
theorem crash_dead (hL : DeadP n s S F2 w) {gd : Nat} (hg : S.q.g = gd) (keep : Nat) (hkeep : keep < 18446744073709551616) (torn at_ : Int) (ht : -9223372036854775808 ≤ torn ∧ torn ≤ 9223372036854775807) :
    Calls Tryz.prog 24 #[.pointer (some ⟨gd, 0, none⟩), .int .u64 keep, .int .i64 torn, .int .i64 at_] w fun e w' => e = .returned (.tuple #[]) ∧ ∃ q2, Ready n s S.q q2 S.F F2 (S.l.serial + 2) w w' := by
  subst hg
  refine (crash_law hL.disk keep hkeep torn at_ ht).mono ?_
  rintro e w' ⟨rfl, q2, hst, hc⟩
  obtain ⟨h, slot, all', g, h1, h2⟩ := hL.mix _ hc.mix
  exact ⟨rfl, q2, hst, hc.dead, hc.cut, hc.n.trans hL.hn, hc.size.trans hL.hsz, h, slot, all', g, h1, h2⟩
theorem Good.few {X : Int → List UInt8} {h : Hdr} {slot : Nat} {all : List (List UInt8)} (g : Good X n s h slot all) : all.length * 8 ≤ half n * s := by
  have h1 := frames_eight all
  have h2 := g.used
  have h3 := g.fits
  omega
/-- Open, behind a crash: one of two stores is there. -/
theorem open_ready (hn1 : 16 ≤ n) (hs : 128 ≤ s) (hb : half n * s ≤ 200000) {q q2 : DR} {F1 F2 : ByteArray → Option ByteArray} {K gd : Nat} (hR : Ready n s q q2 F1 F2 K w w') (hg : q.g = gd) :
    Calls Tryz.prog 11 #[.pointer (some ⟨gd, 0, none⟩)] w' fun e w'' => ∃ S', e = .returned (.tuple #[.pointer (some ⟨S'.gs, 0, none⟩), .int .i64 0]) ∧ LiveP n s S' w'' ∧ (S'.F = F1 ∨ S'.F = F2) ∧ S'.N * 8 ≤ half n * s ∧ Tch q2.F w' w'' := by
  obtain ⟨h, slot, all, g, hk, hF⟩ := hR.good
  have hg2 : q2.g = gd := hR.st.g.trans hg
  subst hg2
  rcases hF with hF | hF
  · refine (stopen_any hn1 hs w' q2 hR.st.post hR.dead hR.cut hR.hn hR.hsz g hF (by have := g.few; omega)).mono ?_
    rintro e w'' ⟨S', rfl, hO⟩
    exact ⟨S', rfl, hO.live, .inl hO.hF, by rw [hO.hN]; exact g.few, hO.tch⟩
  · refine (stopen_any hn1 hs w' q2 hR.st.post hR.dead hR.cut hR.hn hR.hsz g hF (by have := g.few; omega)).mono ?_
    rintro e w'' ⟨S', rfl, hO⟩
    exact ⟨S', rfl, hO.live, .inr hO.hF, by rw [hO.hN]; exact g.few, hO.tch⟩
/-- A map apart from the disk stays, over a crash. -/
theorem Ready.tch {q q2 : DR} {F1 F2 : ByteArray → Option ByteArray} {K : Nat} (hR : Ready n s q q2 F1 F2 K w w') : Tch q.F w w' := Tch.of_writes hR.st.wrt (fun k hk => by
  simp only [List.mem_cons, Option.some.injEq, List.not_mem_nil, or_false] at hk
  rcases hk with rfl | rfl | rfl
  · exact .inl rfl
  · exact .inr (.inl rfl)
  · exact .inr (.inr (.inl rfl)))
theorem Ready.keep {q q2 : DR} {F1 F2 : ByteArray → Option ByteArray} {K x : Nat} {w'' : World} (hR : Ready n s q q2 F1 F2 K w w') (ht : Tch q2.F w' w'') (hx : x < w.heap.size) (hn : ¬ q.F x) : w''.heap[x]? = w.heap[x]? := by
  have h1 := hR.tch
  refine (ht.block x (Nat.lt_of_lt_of_le hx h1.size) (fun e => ?_)).trans (h1.block x hx hn)
  rcases hR.st.F x e with e | e
  · exact hn e
  · omega
theorem Ready.below {q q2 : DR} {F1 F2 : ByteArray → Option ByteArray} {K : Nat} {w'' : World} (hR : Ready n s q q2 F1 F2 K w w') (ht : Tch q2.F w' w'') (hB : B ≤ w.heap.size) (hl : ∀ x, q.F x → B ≤ x) : Below B w w'' :=
  (hR.tch.below hB hl).trans (ht.below (Nat.le_trans hB hR.tch.size) (fun x hx => by
    rcases hR.st.F x hx with e | e
    · exact hl x e
    · omega))
end
end Go.Proofs.YtelglbblgkhcmaaGreat
