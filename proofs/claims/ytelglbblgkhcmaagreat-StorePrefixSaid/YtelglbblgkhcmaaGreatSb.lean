/-
  Package store: a store in memory: Open, Compact, Apply.
-/
import Derived.Test.YtelglbblgkhcmaaGreatSa
import Derived.Test.YtelglbblgkhcmaaGreatWh
import Derived.Test.YtelglbblgkhcmaaGreatCS
import Derived.Test.YtelglbblgkhcmaaGreatRelG
namespace Go.Proofs.YtelglbblgkhcmaaGreat
open Go.RowKit Go.Deep

/-- The records of a store that has F. -/
def RecsF (all : List (List UInt8)) (F : ByteArray → Option ByteArray) : Prop := ∃ ps : List PairR, all = ps.map packE ∧ (∀ p ∈ ps, p.ok) ∧ ps.foldl chg (fun _ => none) = F
/-- A store: where its parts lie, what it has, its log, its disk. -/
structure SR where
  gs : Nat
  mb : Nat
  N : Nat
  F : ByteArray → Option ByteArray
  l : LR
  q : DR
  all : List (List UInt8)
def SR.Fp (S : SR) (x : Nat) : Prop := x = S.gs ∨ x = S.mb ∨ FL S.l S.q x
def stV (gl : Nat) (down : Bool) (mb : Nat) : Array Value := #[.pointer (some ⟨gl, 0, none⟩), .bool down, .map (some mb)]
/-- What a store tells. -/
structure Front (gs gl mb N : Nat) (F : ByteArray → Option ByteArray) (down : Bool) (w : World) : Prop where
  hold : Holds w gs 58 (stV gl down mb)
  map : SMapE w mb N F
  ne : gs ≠ mb
abbrev SR.front (S : SR) (down : Bool) (w : World) : Prop := Front S.gs S.l.g S.mb S.N S.F down w
/-- A store that stands. -/
structure LiveP (n s : Nat) (S : SR) (w : World) : Prop where
  fr : S.front false w
  log : LogS n s S.l S.q w S.all
  recs : RecsF S.all S.F
  a1 : ¬ FL S.l S.q S.gs
  a2 : ¬ FL S.l S.q S.mb
/-- A store that is down: behind a crash its disk has what it tells, or F2. -/
structure DeadP (n s : Nat) (S : SR) (F2 : ByteArray → Option ByteArray) (w : World) : Prop where
  fr : S.front true w
  disk : DiskP S.q w
  hn : S.q.n = n
  hsz : S.q.size = s
  mix : ∀ X, Mix S.q.abs X → ∃ h slot all', Good X n s h slot all' ∧ h.serial ≤ S.l.serial + 2 ∧ (RecsF all' S.F ∨ RecsF all' F2)
section
variable {gs gl mb N n s : Nat} {F F2 : ByteArray → Option ByteArray} {down : Bool} {w w' : World} {S : SR}
theorem Front.loc (h : Front gs gl mb N F down w) (hb : ∀ x, x = gs ∨ x = mb → w'.heap[x]? = w.heap[x]?) : Front gs gl mb N F down w' :=
  ⟨(hb gs (.inl rfl)).trans h.hold, SMap.loc h.map (hb mb (.inr rfl)), h.ne⟩
theorem Front.lt (h : Front gs gl mb N F down w) {x : Nat} (hx : x = gs ∨ x = mb) : x < w.heap.size := by
  rcases hx with rfl | rfl
  · exact h.hold.lt
  · exact SMap.lt h.map
theorem Front.below (h : Front gs gl mb N F down w) (hb : Below w.heap.size w w') : Front gs gl mb N F down w' := h.loc fun _ hx => hb.block _ (h.lt hx)
theorem LiveP.loc (hb : ∀ x, S.Fp x → w'.heap[x]? = w.heap[x]?) (h : LiveP n s S w) : LiveP n s S w' :=
  ⟨h.fr.loc fun x hx => hb x (by rcases hx with e | e; exact .inl e; exact .inr (.inl e)), h.log.aside fun x _ hx => hb x (.inr (.inr hx)), h.recs, h.a1, h.a2⟩
theorem DeadP.loc (hb : ∀ x, S.Fp x → w'.heap[x]? = w.heap[x]?) (h : DeadP n s S F2 w) : DeadP n s S F2 w' :=
  ⟨h.fr.loc fun x hx => hb x (by rcases hx with e | e; exact .inl e; exact .inr (.inl e)), h.disk.loc fun x hx => hb x (.inr (.inr (.inr hx))), h.hn, h.hsz, h.mix⟩
def LiveC (n s : Nat) (S : SR) : Ch := ⟨S.Fp, LiveP n s S, fun _ _ hb h => h.loc hb⟩
def DeadC (n s : Nat) (S : SR) (F2 : ByteArray → Option ByteArray) : Ch := ⟨S.Fp, DeadP n s S F2, fun _ _ hb h => h.loc hb⟩
theorem LiveP.lt (h : LiveP n s S w) : ∀ x, S.Fp x → x < w.heap.size := by
  rintro x (rfl | rfl | hx)
  · exact h.fr.lt (.inl rfl)
  · exact h.fr.lt (.inr rfl)
  · exact h.log.lt x hx
theorem LiveP.below (h : LiveP n s S w) (hb : Below w.heap.size w w') : LiveP n s S w' := h.loc fun x hx => hb.block x (h.lt x hx)
end
set_option maxRecDepth 100000 in
theorem down_any {gs gl mb N : Nat} {F : ByteArray → Option ByteArray} {down : Bool} (w : World) (h : Front gs gl mb N F down w) :
    Calls Tryz.prog 21 #[.pointer (some ⟨gs, 0, none⟩)] w fun e w' => e = .returned (.bool down) ∧ w' = w := by
  have c1 : w.cell? ⟨gs, 1, none⟩ = some (.bool down) := h.hold.cell 1
  clear h
  go_enter Tryz.func21, Tryz.ntmps21
  go_wp2_with fail
  go_ret
  exact ⟨rfl, rfl⟩
set_option maxRecDepth 100000 in
theorem stget_any {gs gl mb N : Nat} {F : ByteArray → Option ByteArray} {down : Bool} (w : World) (h : Front gs gl mb N F down w) (k : ByteArray) (hk : k.size ≤ 100000000) :
    Calls Tryz.prog 18 #[.pointer (some ⟨gs, 0, none⟩), .string k] w fun e w' => e = .returned (.tuple #[.string ((F k).getD ⟨#[]⟩), .bool (F k).isSome]) ∧ Below w.heap.size w w' := by
  have c2 : w.cell? ⟨gs, 2, none⟩ = some (.map (some mb)) := h.hold.cell 2
  obtain ⟨hl, _⟩ := SMapE.look h.map hk
  clear h
  generalize (F k).getD ⟨#[]⟩ = v at *
  generalize (F k).isSome = b at *
  go_enter Tryz.func18, Tryz.ntmps18
  go_wp2_with fail
  go_ret2
  exact ⟨rfl, below_new w _⟩
/-- What note leaves. -/
def noted (w : World) (gs code : Nat) : World := if code = 32 then w.setCell ⟨gs, 1, none⟩ (.bool true) else w
set_option maxRecDepth 100000 in
theorem note_any {gs gl mb : Nat} {down : Bool} (w : World) (h : Holds w gs 58 (stV gl down mb)) (code : Nat) (hc : code ≤ 1000000) :
    Calls Tryz.prog 55 #[.pointer (some ⟨gs, 0, none⟩), .int .i64 code] w fun e w' => e = .returned (.int .i64 code) ∧ w' = noted w gs code := by
  have c1 := h.cell 1
  have z1 := h.frozen 1
  unfold noted
  by_cases e : code = 32
  · rw [if_pos e]
    subst e
    clear h
    go_enter Tryz.func55, Tryz.ntmps55
    go_wp2_with fail
    go_ret
    exact ⟨rfl, rfl⟩
  · rw [if_neg e]
    have h1 : ((code : Int) == 32) = false := by simp; omega
    clear h
    go_enter Tryz.func55, Tryz.ntmps55
    go_wp2_with fail
    go_ret
    exact ⟨rfl, rfl⟩
theorem PutR.code_le {d : AD} {l l' : LR} {q' : DR} {h0 : Hdr} {ls all next : List (List UInt8)} {n s code : Nat} (h : PutR d l h0 ls all next n s (q'.abs, l', code)) : code ≤ 100 := by
  cases h with
  | long h1 _ => have := congrArg (fun x => x.2.2) h1; simp at this; omega
  | full h1 _ _ => have := congrArg (fun x => x.2.2) h1; simp at this; omega
  | done h1 => have h1 : code = 0 := h1; omega
  | dead h1 => have h1 : code = 32 := h1; omega
/-- What add and renew leave. -/
def AddE (S : SR) (n s : Nat) (h0 : Hdr) (ls next : List (List UInt8)) (w : World) (e : Ending) (w' : World) : Prop :=
  ∃ l' q' code w1, e = .returned (.int .i64 (code : Nat)) ∧ LStep S.l S.q w l' q' w1 ∧ PutR S.q.abs S.l h0 ls S.all next n s (q'.abs, l', code) ∧ (S.q.cut = false → code ≠ 32 ∧ q'.cut = false) ∧ w' = noted w1 S.gs code
section
variable {n s : Nat} {S : SR} {w : World}
set_option maxRecDepth 100000 in
theorem add_any (hn1 : 16 ≤ n) (hs : 128 ≤ s) (h : LiveP n s S w) (hser : S.l.serial + 2 ≤ 4611686018427387904) (A : Option Addr) (m c : Nat) (ls : List (List UInt8)) (hln : ls.length = m) (hm : m ≤ 100000) (hsl : Slices w w.heap.size A ls) :
    Calls Tryz.prog 31 #[.pointer (some ⟨S.gs, 0, none⟩), .slice A m c] w (AddE S n s ⟨S.l.serial, S.l.area, S.l.used, S.l.count + ls.length⟩ ls (S.all ++ ls) w) := by
  have hc := commit_law hn1 hs h.log hser A m c ls hln hm hsl
  have c0 : w.cell? ⟨S.gs, 0, none⟩ = some (.pointer (some ⟨S.l.g, 0, none⟩)) := h.fr.hold.cell 0
  have hL := Lib.hid h
  clear h hsl
  unfold AddE
  go_enter Tryz.func31, Tryz.ntmps31
  go_wp2_with fail
  refine hc.mono ?_
  clear hc
  rintro e w1 ⟨l', q', code, rfl, hst, hput, hlive⟩
  have hcode := hput.code_le
  have hh : Holds w1 S.gs 58 (stV S.l.g false S.mb) := (hst.touch hL.out.fr.hold.lt hL.out.a1).trans hL.out.fr.hold
  have hfin : Hid (LStep S.l S.q w l' q' w1 ∧ PutR S.q.abs S.l ⟨S.l.serial, S.l.area, S.l.used, S.l.count + ls.length⟩ ls S.all (S.all ++ ls) n s (q'.abs, l', code) ∧ (S.q.cut = false → code ≠ 32 ∧ q'.cut = false)) := Lib.hid ⟨hst, hput, hlive⟩
  clear hst hput hlive
  go_wp2_with fail
  refine (note_any w1 hh code (by omega)).mono ?_
  clear hh
  rintro e w2 ⟨rfl, hw⟩
  have hw := Lib.hid hw
  go_wp2_with fail
  go_ret
  exact ⟨l', q', code, w1, rfl, hfin.out.1, hfin.out.2.1, hfin.out.2.2, rfl⟩
set_option maxRecDepth 100000 in
theorem renew_any (hn1 : 16 ≤ n) (hs : 128 ≤ s) (h : LiveP n s S w) (hser : S.l.serial + 2 ≤ 4611686018427387904) (A : Option Addr) (m c : Nat) (ls : List (List UInt8)) (hln : ls.length = m) (hm : m ≤ 100000) (hsl : Slices w w.heap.size A ls) :
    Calls Tryz.prog 33 #[.pointer (some ⟨S.gs, 0, none⟩), .slice A m c] w (AddE S n s ⟨0, 1 - S.l.area, 0, ls.length⟩ ls ls w) := by
  have hc := reset_law hn1 hs h.log hser A m c ls hln hm hsl
  have c0 : w.cell? ⟨S.gs, 0, none⟩ = some (.pointer (some ⟨S.l.g, 0, none⟩)) := h.fr.hold.cell 0
  have hL := Lib.hid h
  clear h hsl
  unfold AddE
  go_enter Tryz.func33, Tryz.ntmps33
  go_wp2_with fail
  refine hc.mono ?_
  clear hc
  rintro e w1 ⟨l', q', code, rfl, hst, hput, hlive⟩
  have hcode := hput.code_le
  have hh : Holds w1 S.gs 58 (stV S.l.g false S.mb) := (hst.touch hL.out.fr.hold.lt hL.out.a1).trans hL.out.fr.hold
  have hfin : Hid (LStep S.l S.q w l' q' w1 ∧ PutR S.q.abs S.l ⟨0, 1 - S.l.area, 0, ls.length⟩ ls S.all ls n s (q'.abs, l', code) ∧ (S.q.cut = false → code ≠ 32 ∧ q'.cut = false)) := Lib.hid ⟨hst, hput, hlive⟩
  clear hst hput hlive
  go_wp2_with fail
  refine (note_any w1 hh code (by omega)).mono ?_
  clear hh
  rintro e w2 ⟨rfl, hw⟩
  have hw := Lib.hid hw
  go_wp2_with fail
  go_ret
  exact ⟨l', q', code, w1, rfl, hfin.out.1, hfin.out.2.1, hfin.out.2.2, rfl⟩
end
end Go.Proofs.YtelglbblgkhcmaaGreat
namespace Go.Proofs.YtelglbblgkhcmaaGreat
open Go.RowKit Go.Deep

theorem Slices.cell {w : World} {B : Nat} {A : Option Addr} {ls : List (List UInt8)} {k : Nat} (h : Slices w B A ls) (hk : k < ls.length) :
    ∃ b off Ai ci, A = some ⟨b, off, none⟩ ∧ b < B ∧ w.cell? ⟨b, off + k, none⟩ = some (.slice Ai ls[k].length ci) ∧ Bytes w B Ai ls[k] := by
  obtain ⟨vs, hvl, hr, hi⟩ := h
  obtain ⟨Ai, ci, h1, h2, _⟩ := hi k hk
  have hkv : k < vs.length := by rw [hvl]; exact hk
  obtain ⟨b, off, e, hb, hc⟩ := hr.at_ hkv
  refine ⟨b, off, Ai, ci, e, hb, ?_, h2⟩
  rw [hc]
  rw [List.getElem?_eq_getElem hkv] at h1
  exact h1
/-- What Open leaves. -/
structure OpenS (n s : Nat) (q : DR) (F : ByteArray → Option ByteArray) (all : List (List UInt8)) (h : Hdr) (w : World) (S : SR) (w' : World) : Prop where
  live : LiveP n s S w'
  hF : S.F = F
  ha : S.all = all
  ser : S.l.serial = h.serial
  hg : S.q.g = q.g
  cut : S.q.cut = false
  hN : S.N = all.length
  tch : Tch q.F w w'
  foot : ∀ x, S.Fp x → q.F x ∨ w.heap.size ≤ x
set_option maxRecDepth 100000 in
set_option maxHeartbeats 4000000 in
theorem stopen_any {n s slot : Nat} {h : Hdr} {all : List (List UInt8)} {F : ByteArray → Option ByteArray} (hn1 : 16 ≤ n) (hs : 128 ≤ s) (w : World) (q : DR) (hq : DiskP q w) (hd : q.dead = false) (hc : q.cut = false) (hn : q.n = n) (hsz : q.size = s) (hg : Good q.abs.last n s h slot all) (hF : RecsF all F) (hal : all.length ≤ 90000) :
    Calls Tryz.prog 11 #[.pointer (some ⟨q.g, 0, none⟩)] w fun e w' => ∃ S, e = .returned (.tuple #[.pointer (some ⟨S.gs, 0, none⟩), .int .i64 0]) ∧ OpenS n s q F all h w S w' := by
  have ho := open_live hn1 hs w q hq hd hc hn hsz hg
  have hq' := Lib.hid hq
  obtain ⟨ps, hps, hpok, hpF⟩ := hF
  replace hps := Lib.hid hps
  replace hpok := Lib.hid hpok
  replace hpF := Lib.hid hpF
  have hmm := @run_makeMap Tryz.prog
  clear hg hd hc hn hsz hq
  go_enter Tryz.func11, Tryz.ntmps11
  go_wp2_with fail
  refine ho.mono ?_
  clear ho
  rintro e w1 ⟨q', l, A, c, rfl, hst, hge, hlog, hhdr, hslot, hsl, hlc, hcut⟩
  obtain ⟨m, hm⟩ : ∃ m, m = all.length := ⟨_, rfl⟩
  rw [← hm]
  have hm' := Lib.hid hm
  have hml : m ≤ 90000 := by omega
  have hlc2 : m ≤ c := by omega
  have hfo := Lib.hid hst
  have hge' := Lib.hid hge
  replace hlog := Lib.hid hlog
  have hhs := Lib.hid (congrArg Hdr.serial hhdr)
  replace hsl := Lib.hid hsl
  replace hcut := Lib.hid hcut
  clear hm hst hge hhdr hslot hlc hal
  go_wp2_with fail
  obtain ⟨mb, hmb⟩ : ∃ x, x = w1.heap.size := ⟨_, rfl⟩
  obtain ⟨gs, hgs⟩ : ∃ x, x = mb + 1 := ⟨_, rfl⟩
  obtain ⟨w3, hw3⟩ : ∃ x, x = (w1.alloc (.map #[] 0)).alloc (.cells (stV l.g false mb) 58) := ⟨_, rfl⟩
  have hb1 := below_new w1 (.map #[] 0)
  have hs2 : (w1.alloc (.map #[] 0)).heap.size = w1.heap.size + 1 := by simp
  have hm0 : SMapE (w1.alloc (.map #[] 0)) w1.heap.size 0 (fun _ => none) := SMap.made w1
  have hb2 := below_new (w1.alloc (.map #[] 0)) (.cells (stV l.g false mb) 58)
  have hh3 : Hid (Holds w3 gs 58 (stV l.g false mb)) := Lib.hid (by
    have := Holds.new (w1.alloc (.map #[] 0)) 58 (stV l.g false mb)
    rw [hs2, ← hmb, ← hgs, ← hw3] at this
    exact this)
  have hb3 : Hid (Below w1.heap.size w1 w3) := Lib.hid (by rw [hw3]; exact hb1.trans (hb2.mono hb1.size))
  have hm3 : Hid (SMapE w3 mb 0 (fun _ => none)) := Lib.hid (by rw [hw3, hmb]; rw [hmb] at hb2; exact hm0.loc (hb2.block _ hm0.lt))
  unfold stV at hw3
  rw [← hmb]
  rw [← hw3, ← hgs]
  have hmb' := Lib.hid hmb
  have hgs' := Lib.hid hgs
  clear hb1 hs2 hm0 hb2 hw3 hmb hgs hmm
  go_loopw [28] (fun iv wr => ∃ k : Nat, k ≤ m ∧ iv = .int .i64 k ∧ Hid (SMapE wr mb k ((ps.take k).foldl chg (fun _ => none))) ∧ Hid (Writes [some mb] w3 wr)) (fun iv _ => m - (intOf iv).toNat)
  case atStart => exact ⟨0, by omega, rfl, hm3, Lib.hid (Writes.refl _ _)⟩
  clear hm3
  obtain ⟨k, hk, rfl, hmk, hM⟩ := hrel
  rename World => wo
  have hgm : Hid (gs ≠ mb) := Lib.hid (by have := hgs'.out; omega)
  have hho := Lib.hid (hM.out.holds hh3.out (by have := hgm.out; simp; exact this))
  have hbo : Hid (Below w1.heap.size w3 wo) := Lib.hid (hM.out.below hb3.out.size (by have := hmb'.out; simp; omega))
  by_cases hkm : k < m
  · have hkl : k < all.length := by rw [← hm'.out]; exact hkm
    have hkp : k < ps.length := by have := congrArg List.length hps.out; simp at this; omega
    obtain ⟨b, off, Ai, ci, rfl, _, hcell, hby⟩ := ((hsl.out.below hb3.out).below hbo.out).cell hkl
    have hel : all[k] = packE ps[k] := by have h1 := hps.out; subst h1; simp
    rw [hel] at hcell hby
    have hpo := Lib.hid (hpok.out ps[k] (List.getElem_mem hkp))
    have hft : Hid ((ps.take (k + 1)).foldl chg (fun _ => none) = chg ((ps.take k).foldl chg (fun _ => none)) ps[k]) := Lib.hid (by rw [List.take_add_one, List.getElem?_eq_getElem hkp, Option.toList_some, List.foldl_append]; rfl)
    clear hel
    generalize ps[k] = p at *
    obtain ⟨pk, pv, pg⟩ := p
    have hby := Lib.hid (hby.more (Nat.le_trans hb3.out.size hbo.out.size))
    obtain ⟨rn, hrn⟩ : ∃ x, x = (packE ⟨pk, pv, pg⟩).length := ⟨_, rfl⟩
    rw [← hrn] at hcell
    replace hrn := Lib.hid hrn
    go_wp2_with fail
    refine (unpack_any wo ⟨pk, pv, pg⟩ hpo.out Ai rn ci hrn.out.symm hby.out).mono ?_
    rintro e w4 ⟨rfl, hB4⟩
    unfold PairR.val
    have hb4 := below_new w4 (.cells #[.string pk, .string pv, .bool pg] 41)
    have hpp := Holds.new w4 41 #[.string pk, .string pv, .bool pg]
    obtain ⟨wb, hwb⟩ : ∃ x, x = w4.alloc (.cells #[.string pk, .string pv, .bool pg] 41) := ⟨_, rfl⟩
    obtain ⟨bp, hbp⟩ : ∃ x, x = w4.heap.size := ⟨_, rfl⟩
    rw [← hwb] at hb4 hpp
    rw [← hbp] at hpp
    have hB5 : Hid (Below wo.heap.size wo wb) := Lib.hid (hB4.trans (hb4.mono hB4.size))
    replace hpp := Lib.hid hpp
    clear hB4 hb4 hcell hby
    go_wp2_with fail
    rw [← hwb, ← hbp]
    clear hwb hbp
    obtain ⟨FK, hFK⟩ : ∃ x, x = (ps.take k).foldl chg (fun _ => none) := ⟨_, rfl⟩
    rw [← hFK] at hmk hft
    have hmk2 : Hid (SMapE wb mb k FK) := Lib.hid (hmk.out.loc (hB5.out.block mb hmk.out.lt))
    have hgl : Hid (gs < wb.heap.size) := Lib.hid (Nat.lt_of_lt_of_le hho.out.lt hB5.out.size)
    have hg2 : Hid (wb.cell? ⟨gs, 2, none⟩ = some (.map (some mb))) := Lib.hid ((hho.out.below hB5.out hho.out.lt).cell 2)
    have hkb : Hid (k ≤ 90000) := Lib.hid (by omega)
    have hMw : Hid (Writes [some mb] w3 wb) := Lib.hid (hM.out.trans (Writes.of_below hB5.out _))
    clear hFK hmk hho hM hbo hB5
    -- THE REGION THAT DRAWS ITS ORDER, BY ONE LEXICAL WALK OVER GENERIC VALUES (written by relgen.py)
    refine wp_region_tabL ((fun _ _ v => v = .pointer (some ⟨gs, 0, none⟩)) ::
      (fun _ _ v => v = .pointer (some ⟨gs, 0, none⟩)) ::
      (fun _ _ v => v = .pointer (some ⟨gs, 2, none⟩)) ::
      (fun _ _ v => v = .map (some mb)) ::
      (fun _ _ v => v = .agg #[.string pk, .string pv, .bool pg]) ::
      (fun L w v => ∃ kn, v = .slice (some ⟨kn, 0, none⟩) 1 1 ∧ Till 6 (fun w _ => Holds w kn 41 #[.string pk, .string pv, .bool pg]) L w v) ::
      (fun _ _ v => v = .tuple #[]) :: [])
      (⟨[(7, none)], 0, [6]⟩ :: ⟨[(39, some 0)], 0, [6]⟩ :: ⟨[(40, some 1)], 0, [6]⟩ :: ⟨[(41, some 2)], 0, [6]⟩ :: ⟨[(10, none)], 0, [6]⟩ :: ⟨[(43, some 4)], 0, [6]⟩ :: ⟨[(42, some 3), (44, some 5)], 0, []⟩ :: [])
      (none :: none :: none :: none :: none :: none :: none :: none :: none :: none :: none :: none :: none :: none :: none :: none :: none :: none :: none :: none :: none :: none :: none :: none :: none :: none :: none :: none :: none :: none :: none :: none :: none :: none :: none :: none :: none :: none :: none :: some 0 :: some 1 :: some 2 :: some 3 :: some 4 :: some 5 :: some 6 :: [])
      (fun L w' => CS 6 5 wb (fun w' => SMapE w' mb (k + 1) (chg FK ⟨pk, pv, pg⟩) ∧ Writes [some mb] wb w') L w') (fun i w w' => i ≠ 6 → Below w.heap.size w w') ?mixK11open11 ?okK11open11 ?tabK11open11 ?frK11open11 ?inK11open11 ?keptK11open11 ?startK11open11 ?eachK11open11 ?finK11open11
    case mixK11open11 => kernel_rfl
    case okK11open11 => kernel_rfl
    case tabK11open11 => kernel_rfl
    case frK11open11 => kernel_rfl
    case inK11open11 => rfl
    case keptK11open11 => exact ⟨fun _ _ _ _ _ _ _ _ _ _ _ h => h, fun _ _ _ _ _ _ _ _ _ _ _ h => h, fun _ _ _ _ _ _ _ _ _ _ _ h => h, fun _ _ _ _ _ _ _ _ _ _ _ h => h, fun _ _ _ _ _ _ _ _ _ _ _ h => h, fun i hne hrd L w w' v hLi hC hC' hG ⟨kn, e, h⟩ => ⟨kn, e, Till.keepN h hne (fun _ h2 => hG h2) (fun hb h => h.below hb h.lt)⟩, fun _ _ _ _ _ _ _ _ _ _ _ h => h, trivial⟩
    case startK11open11 => exact ⟨fun _ => (Below.refl _ _).drew, fun e => by simp at e⟩
    case eachK11open11 =>
      refine ⟨?_, ?_, ?_, ?_, ?_, ?_, ?_, trivial⟩
      -- 0: slot 39 := move t7
      · intro w L f hC hLi hLd hLn hF
        obtain ⟨d7, _⟩ := hF
        have d7 : f 7 = .pointer (some ⟨gs, 0, none⟩) := d7
        refine Step2.live rfl ?_
        exact relUpon_value (v := f 7) rfl (hC.go (i := 0) (hLn 6 (by simp)) (by decide) (Below.refl _ _)) (fun _ => Below.refl _ _) d7
      -- 1: slot 40 := nilCheck t39
      · intro w L f hC hLi hLd hLn hF
        obtain ⟨d39, _⟩ := hF
        have d39 : f 39 = .pointer (some ⟨gs, 0, none⟩) := d39
        refine Step2.live rfl ?_
        have ev : ∀ t, evalOf f (.tmp t) = f t := fun _ => rfl
        have ec : ∀ c, evalOf f (.const c) = c := fun _ => rfl
        have ef : ∀ g, evalOf f (.func g) = .func (.func g) #[] #[] := fun _ => rfl
        refine relUpon_value ?_ (hC.go (i := 1) (hLn 6 (by simp)) (by decide) (Below.refl _ _)) (fun _ => Below.refl _ _) rfl
        go_simp
      -- 2: slot 41 := fieldAddr 58 t40 1
      · intro w L f hC hLi hLd hLn hF
        obtain ⟨d40, _⟩ := hF
        have d40 : f 40 = .pointer (some ⟨gs, 0, none⟩) := d40
        refine Step2.live rfl ?_
        have ev : ∀ t, evalOf f (.tmp t) = f t := fun _ => rfl
        have ec : ∀ c, evalOf f (.const c) = c := fun _ => rfl
        have ef : ∀ g, evalOf f (.func g) = .func (.func g) #[] #[] := fun _ => rfl
        refine relUpon_value ?_ (hC.go (i := 2) (hLn 6 (by simp)) (by decide) (Below.refl _ _)) (fun _ => Below.refl _ _) rfl
        go_simp
      -- 3: slot 42 := load 56 t41
      · intro w L f hC hLi hLd hLn hF
        obtain ⟨d41, _⟩ := hF
        have d41 : f 41 = .pointer (some ⟨gs, 2, none⟩) := d41
        refine Step2.live rfl ?_
        have c2 := ((hC.bel (hLn 6 (by simp))).cell (p := ⟨gs, 2, none⟩) hgl.out).trans hg2.out
        have ev : ∀ t, evalOf f (.tmp t) = f t := fun _ => rfl
        have ec : ∀ c, evalOf f (.const c) = c := fun _ => rfl
        have ef : ∀ g, evalOf f (.func g) = .func (.func g) #[] #[] := fun _ => rfl
        refine relUpon_value ?_ (hC.go (i := 3) (hLn 6 (by simp)) (by decide) (Below.refl _ _)) (fun _ => Below.refl _ _) rfl
        go_simp
      -- 4: slot 43 := load 41 t10
      · intro w L f hC hLi hLd hLn hF
        obtain ⟨d10, _⟩ := hF
        have d10 : f 10 = .pointer (some ⟨bp, 0, none⟩) := d10
        refine Step2.live rfl ?_
        have hh := hpp.out.below (hC.bel (hLn 6 (by simp))) hpp.out.lt
        have c0 := hh.cell 0
        have c1 := hh.cell 1
        have c2 := hh.cell 2
        have ev : ∀ t, evalOf f (.tmp t) = f t := fun _ => rfl
        have ec : ∀ c, evalOf f (.const c) = c := fun _ => rfl
        have ef : ∀ g, evalOf f (.func g) = .func (.func g) #[] #[] := fun _ => rfl
        refine relUpon_value ?_ (hC.go (i := 4) (hLn 6 (by simp)) (by decide) (Below.refl _ _)) (fun _ => Below.refl _ _) rfl
        go_simp
      -- 5: slot 44 := buildSlice 32 1 #[(0, t43)]
      · intro w L f hC hLi hLd hLn hF
        obtain ⟨d43, _⟩ := hF
        have d43 : f 43 = .agg #[.string pk, .string pv, .bool pg] := d43
        refine Step2.live rfl ?_
        have ev : ∀ t, evalOf f (.tmp t) = f t := fun _ => rfl
        have ec : ∀ c, evalOf f (.const c) = c := fun _ => rfl
        have ef : ∀ g, evalOf f (.func g) = .func (.func g) #[] #[] := fun _ => rfl
        refine relUpon_value (w' := w.alloc (.cells #[.string pk, .string pv, .bool pg] 41)) (v := .slice (some ⟨w.heap.size, 0, none⟩) 1 1) ?_ (hC.go (i := 5) (hLn 6 (by simp)) (by decide) (below_new _ _)) (fun _ => below_new _ _) ⟨_, rfl, fun _ => Holds.new _ _ _⟩
        go_simp
      -- 6: slot 45 := call { value (Operand.func 29), args := #[t42, t44], argTypes := #[56, 32] }
      · intro w L f hC hLi hLd hLn hF
        obtain ⟨d42, d44, _⟩ := hF
        have d42 : f 42 = .map (some mb) := d42
        refine Step2.live rfl ?_
        obtain ⟨kn, e0, hT⟩ := d44
        have hh := hT hLi
        have hw := hC.bel hLi
        have ev : ∀ t, evalOf f (.tmp t) = f t := fun _ => rfl
        have ec : ∀ c, evalOf f (.const c) = c := fun _ => rfl
        have ef : ∀ g, evalOf f (.func g) = .func (.func g) #[] #[] := fun _ => rfl
        refine relUpon_call (f := 29) (args := #[.map (some mb), .slice (some ⟨kn, 0, none⟩) 1 1]) (w := w) (by go_simp) (change_any w mb k FK (hmk2.out.loc (hw.block mb hmk2.out.lt)) _ 1 1 [⟨pk, pv, pg⟩] rfl (Row.ofHolds hh hh.lt) (fun p hp => by rw [List.mem_singleton.1 hp]; exact hpo.out) (by have := hkb.out; omega)) ?_
        rintro e w1 ⟨he, hm1, hM1⟩
        exact ⟨_, he, CS.last (hLd 5 (by decide)) ⟨hm1, (Writes.of_below hw _).trans hM1⟩, fun h => absurd rfl h, rfl⟩
    intro x w' hC hV

    obtain ⟨-, hm5, hM5⟩ := hC.2 rfl
    clear hV hC
    simp only [framed]
    have hfin : Hid (SMapE w' mb (k + 1) ((ps.take (k + 1)).foldl chg (fun _ => none)) ∧ Writes [some mb] w3 w') := Lib.hid ⟨by rw [hft.out]; exact hm5, hMw.out.trans hM5⟩
    clear hm5 hM5 hMw hft hmk2 hg2 hgl hpp
    go_wp2_with fail
    exact ⟨⟨k + 1, by omega, by simp, Lib.hid hfin.out.1, Lib.hid hfin.out.2⟩, by simp [intOf]; omega⟩
  · obtain rfl : k = m := by omega
    have hkl : ps.length = k := by have := congrArg List.length hps.out; simp at this; rw [hm'.out]; omega
    have hmf : Hid (SMapE wo mb k F) := Lib.hid (by have := hmk.out; rw [List.take_of_length_le (by omega), hpF.out] at this; exact this)
    clear hmk hkl
    have hbb : Hid (Below w1.heap.size w1 wo) := Lib.hid (hb3.out.trans hbo.out)
    have hq1 := hfo.out.post
    have hlg : Hid (LogS n s l q' wo all) := Lib.hid (hlog.out.below hbb.out)
    have hlt := hlog.out.lt
    have hn1' : ¬ FL l q' gs := fun hx => by have := hlt _ hx; have := hgs'.out; have := hmb'.out; omega
    have hn2' : ¬ FL l q' mb := fun hx => by have := hlt _ hx; have := hmb'.out; omega
    have hfin : Hid (OpenS n s q F all h w ⟨gs, mb, k, F, l, q', all⟩ wo) := Lib.hid ⟨⟨⟨hho.out, hmf.out, hgm.out⟩, hlg.out, ⟨ps, hps.out, hpok.out, hpF.out⟩, hn1', hn2'⟩,
      rfl, rfl, hhs.out, hfo.out.g, hcut.out, hm'.out,
      (Tch.of_writes hfo.out.wrt (fun k hk => by
        simp only [List.mem_cons, Option.some.injEq, List.not_mem_nil, or_false] at hk
        rcases hk with rfl | rfl | rfl
        · exact .inl rfl
        · exact .inr (.inl rfl)
        · exact .inr (.inr (.inl rfl)))).trans (Tch.of_below hbb.out _), fun x hx => by
        have := hfo.out.wrt.size
        have := hmb'.out
        have := hgs'.out
        rcases hx with e | e | e | hx
        · right; rw [e]; show _ ≤ gs; omega
        · right; rw [e]; show _ ≤ mb; omega
        · right; rw [e]; exact hge'.out
        · exact hfo.out.F x hx⟩
    clear hn1' hn2' hlt hlg hq1 hmf hbo hho hM hsl hb3 hh3
    go_wp2_with fail
    go_ret2
    exact ⟨_, rfl, hfin.out⟩
end Go.Proofs.YtelglbblgkhcmaaGreat
namespace Go.Proofs.YtelglbblgkhcmaaGreat
open Go.RowKit Go.Deep

/-- A pair as it is packed. -/
def normP (p : PairR) : PairR := if p.gone = true then ⟨p.k, ⟨#[]⟩, true⟩ else p
def PairR.sm (p : PairR) : Prop := p.k.size ≤ 1000 ∧ p.v.size ≤ 1000
theorem PairR.sm.ok {p : PairR} (h : p.sm) : p.ok := ⟨Nat.le_trans h.1 (by omega), Nat.le_trans h.2 (by omega)⟩
theorem normP_sm {p : PairR} (h : p.sm) : (normP p).sm := by
  unfold normP
  split
  · exact ⟨h.1, by show (0 : Nat) ≤ _; omega⟩
  · exact h
theorem chg_norm (F : ByteArray → Option ByteArray) (p : PairR) : chg F (normP p) = chg F p := by
  unfold normP
  split
  · rename_i h
    funext j
    unfold chg
    simp only [h, if_true]
  · rfl
theorem fold_norm (ps : List PairR) : ∀ F : ByteArray → Option ByteArray, (ps.map normP).foldl chg F = ps.foldl chg F := by
  induction ps with
  | nil => intro F; rfl
  | cons p t ih =>
    intro F
    rw [List.map_cons, List.foldl_cons, List.foldl_cons, chg_norm, ih]
theorem RecsF.nil : RecsF [] (fun _ => none) := ⟨[], rfl, fun _ h => (by cases h), rfl⟩
theorem RecsF.put {all : List (List UInt8)} {F : ByteArray → Option ByteArray} (h : RecsF all F) (ps : List PairR) (hp : ∀ p ∈ ps, p.sm) : RecsF (all ++ (ps.map normP).map packE) (ps.foldl chg F) := by
  obtain ⟨qs, rfl, hq, rfl⟩ := h
  refine ⟨qs ++ ps.map normP, by rw [List.map_append], fun p hm => ?_, by rw [List.foldl_append, fold_norm]⟩
  rw [List.mem_append] at hm
  rcases hm with hm | hm
  · exact hq p hm
  · obtain ⟨x, hx, rfl⟩ := List.mem_map.1 hm
    exact (normP_sm (hp x hx)).ok
/-- Small keys and values. -/
def FSm (F : ByteArray → Option ByteArray) : Prop := ∀ k v, F k = some v → k.size ≤ 1000 ∧ v.size ≤ 1000
theorem FSm.ok {F : ByteArray → Option ByteArray} (h : FSm F) : FOk F := fun k v e => ⟨Nat.le_trans (h k v e).1 (by omega), Nat.le_trans (h k v e).2 (by omega)⟩
theorem FSm.chg {F : ByteArray → Option ByteArray} (h : FSm F) {p : PairR} (hp : p.sm) : FSm (chg F p) := fun k v e => by
  unfold Go.Proofs.YtelglbblgkhcmaaGreat.chg at e
  split at e
  · rename_i hk
    split at e
    · cases e
    · injection e with e
      subst e hk
      exact hp
  · exact h k v e
theorem FSm.fold {ps : List PairR} : ∀ {F : ByteArray → Option ByteArray}, FSm F → (∀ p ∈ ps, p.sm) → FSm (ps.foldl Go.Proofs.YtelglbblgkhcmaaGreat.chg F) := by
  induction ps with
  | nil => intro F h _; exact h
  | cons p t ih => intro F h hp; exact ih (h.chg (hp p (List.mem_cons_self ..))) (fun x hx => hp x (List.mem_cons_of_mem _ hx))
theorem FSm.none : FSm (fun _ => Option.none) := fun _ _ e => by cases e
theorem strV_eq {x : List UInt8} {j : ByteArray} : strV x = j ↔ x = j.data.toList := by
  constructor
  · rintro rfl; exact (strV_list x).symm
  · rintro rfl; exact strV_bytes j
theorem fold_recs (F : ByteArray → Option ByteArray) (ks : List (List UInt8)) : ∀ (A : ByteArray → Option ByteArray) (j : ByteArray), (ks.map (recOf F)).foldl chg A j = if j.data.toList ∈ ks then some ((F j).getD ⟨#[]⟩) else A j := by
  induction ks with
  | nil => intro A j; simp
  | cons x t ih =>
    intro A j
    rw [List.map_cons, List.foldl_cons, ih]
    by_cases h1 : j.data.toList ∈ t
    · rw [if_pos h1, if_pos (List.mem_cons_of_mem _ h1)]
    · rw [if_neg h1]
      unfold chg recOf
      by_cases h2 : j = strV x
      · have h3 : j.data.toList = x := by rw [h2]; exact strV_list x
        rw [if_pos h2, if_neg (by simp), if_pos (by rw [h3]; exact List.mem_cons_self ..), ← h2]
      · rw [if_neg h2, if_neg]
        intro h3
        rcases List.mem_cons.1 h3 with h3 | h3
        · exact h2 (strV_eq.2 h3.symm).symm
        · exact h1 h3
theorem RecsF.snap {F : ByteArray → Option ByteArray} {ks : List (List UInt8)} (hk : KeysL (fun k => (F k).map entV) ks) (hF : FSm F) : RecsF (snapF F ks) F := by
  have hmem : ∀ j : ByteArray, j.data.toList ∈ ks ↔ F j ≠ none := fun j => by
    have h1 := hk.2 j.data.toList
    rw [strV_bytes] at h1
    rw [h1]
    show (F j).map entV ≠ none ↔ F j ≠ none
    cases F j <;> simp
  refine ⟨ks.map (recOf F), by unfold snapF; rw [List.map_map]; rfl, fun p hp => ?_, ?_⟩
  · obtain ⟨x, hx, rfl⟩ := List.mem_map.1 hp
    have h1 := (hmem (strV x)).1 (by rw [strV_list]; exact hx)
    obtain ⟨v, hv⟩ := Option.ne_none_iff_exists'.1 h1
    have h2 := hF _ _ hv
    unfold recOf PairR.ok
    rw [hv]
    exact ⟨Nat.le_trans h2.1 (by omega), Nat.le_trans h2.2 (by omega)⟩
  · funext j
    rw [fold_recs]
    by_cases h1 : j.data.toList ∈ ks
    · rw [if_pos h1]
      obtain ⟨v, hv⟩ := Option.ne_none_iff_exists'.1 ((hmem j).1 h1)
      rw [hv]
      rfl
    · rw [if_neg h1]
      cases hv : F j with
      | none => rfl
      | some v => exact absurd ((hmem j).2 (by rw [hv]; simp)) h1
theorem packE_sm {p : PairR} (h : p.sm) : (packE p).length ≤ 2100 := by
  have h1 := txtE_len 1000 p.k h.1 (by omega)
  have h2 := txtE_len 1000 p.v h.2 (by omega)
  have h3 := markE_len
  unfold packE
  simp only [List.length_append, boolE, List.length_cons, List.length_nil]
  omega
theorem notLong_packs {ps : List PairR} (h : ∀ p ∈ ps, p.sm) : tooLong (ps.map packE) = false := tooLong_none fun r hr => by
  obtain ⟨p, hp, rfl⟩ := List.mem_map.1 hr
  have := packE_sm (h p hp)
  omega
theorem snap_sm {F : ByteArray → Option ByteArray} {ks : List (List UInt8)} (hk : KeysL (fun k => (F k).map entV) ks) (hF : FSm F) : ∀ p ∈ ks.map (recOf F), p.sm := fun p hp => by
  obtain ⟨x, hx, rfl⟩ := List.mem_map.1 hp
  have h1 := (hk.2 x).1 hx
  have h1' : F (strV x) ≠ none := fun e => h1 (by show (F (strV x)).map entV = none; rw [e]; rfl)
  obtain ⟨v, hv⟩ := Option.ne_none_iff_exists'.1 h1'
  unfold recOf PairR.sm
  rw [hv]
  exact hF _ _ hv
theorem notLong_snap {F : ByteArray → Option ByteArray} {ks : List (List UInt8)} (hk : KeysL (fun k => (F k).map entV) ks) (hF : FSm F) : tooLong (snapF F ks) = false := by
  have := notLong_packs (snap_sm hk hF)
  rw [List.map_map] at this
  exact this
/-- A snapshot fits. -/
def FitF (n s : Nat) (F : ByteArray → Option ByteArray) : Prop := ∀ ks, KeysL (fun k => (F k).map entV) ks → (framesF (snapF F ks)).length ≤ half n * s
section
variable {n s : Nat} {S : SR} {w w1 w2 : World} {l' : LR} {q' : DR} {h0 : Hdr} {ls next : List (List UInt8)} {F2 : ByteArray → Option ByteArray} {code : Nat}
theorem LStep.tch {l : LR} {q : DR} (h : LStep l q w l' q' w1) : Tch (FL l q) w w1 := Tch.of_writes h.wrt (fun k hk => by
  simp only [List.mem_cons, Option.some.injEq, List.not_mem_nil, or_false] at hk
  rcases hk with rfl | rfl | rfl | rfl
  · exact .inl rfl
  · exact .inr (.inl rfl)
  · exact .inr (.inr (.inl rfl))
  · exact .inr (.inr (.inr (.inl rfl))))
theorem LStep.fl_lt {l : LR} {q : DR} (h : LStep l q w l' q' w1) {x : Nat} (hx : FL l' q' x) : x < w1.heap.size := by
  rcases hx with rfl | hx
  · exact h.log.lt
  · exact h.post.lt x hx
theorem LStep.off {l : LR} {q : DR} (h : LStep l q w l' q' w1) {x : Nat} (hx : x < w.heap.size) (hn : ¬ FL l q x) : ¬ FL l' q' x := fun h' => by
  rcases h.fl x h' with e | e
  · exact hn e
  · omega
theorem stV_l {g : Nat} {down : Bool} {mb : Nat} {l l' : LR} (h : l'.g = l.g) (hh : Holds w g 58 (stV l.g down mb)) : Holds w g 58 (stV l'.g down mb) := by rw [h]; exact hh
/-- A put that was done, and the map's change. -/
theorem live_next (hL : LiveP n s S w) (hst : LStep S.l S.q w l' q' w1) (hput : PutR S.q.abs S.l h0 ls S.all next n s (q'.abs, l', 0)) (hrec : RecsF next F2) {N2 : Nat} (hm : SMapE w2 S.mb N2 F2) (hW : Writes [some S.mb] w1 w2) :
    Upd (LiveC n s S) w (LiveC n s ⟨S.gs, S.mb, N2, F2, l', q', next⟩) w2 ∧ l'.serial ≤ S.l.serial + 2 := by
  obtain ⟨h1, h2, _, _⟩ := hput.stands hL.log hst rfl
  have hgl := hL.fr.hold.lt
  have hml := SMap.lt hL.fr.map
  have a2' := hst.off hml hL.a2
  have hs1 := hst.wrt.size
  have hh1 : Holds w1 S.gs 58 (stV S.l.g false S.mb) := (hst.touch hgl hL.a1).trans hL.fr.hold
  have hl2 : LogS n s l' q' w2 next := h1.aside fun x hx hf => hW.block x hx (by
    simp only [List.mem_cons, Option.some.injEq, List.not_mem_nil, or_false]
    rintro rfl
    exact a2' hf)
  refine ⟨⟨?_, ⟨⟨stV_l hst.lg (hW.holds hh1 (by simpa using hL.fr.ne)), hm, hL.fr.ne⟩, hl2, hrec, hst.off hgl hL.a1, a2'⟩, fun x hx => ⟨?_, ?_⟩⟩, h2⟩
  · exact (hst.tch.more (fun k _ hk => .inr (.inr hk))).trans (Tch.of_writes hW (fun k hk => by simp at hk; exact .inr (.inl hk)))
  · rcases hx with rfl | rfl | hx
    · exact .inl (.inl rfl)
    · exact .inl (.inr (.inl rfl))
    · rcases hst.fl x hx with e | e
      · exact .inl (.inr (.inr e))
      · exact .inr e
  · have := hW.size
    rcases hx with rfl | rfl | hx
    · show S.gs < _; omega
    · show S.mb < _; omega
    · have := hst.fl_lt hx; omega
/-- A put that found no power. -/
theorem dead_next (hL : LiveP n s S w) (hst : LStep S.l S.q w l' q' w1) (hput : PutR S.q.abs S.l h0 ls S.all next n s (q'.abs, l', 32)) (hrec : RecsF next F2) :
    Upd (LiveC n s S) w (DeadC n s ⟨S.gs, S.mb, S.N, S.F, S.l, q', S.all⟩ F2) (w1.setCell ⟨S.gs, 1, none⟩ (.bool true)) := by
  have hgl := hL.fr.hold.lt
  have hml := SMap.lt hL.fr.map
  have a1' := hst.off hgl hL.a1
  have hs1 := hst.wrt.size
  have hh1 : Holds w1 S.gs 58 (stV S.l.g false S.mb) := (hst.touch hgl hL.a1).trans hL.fr.hold
  have hh2 := hh1.store 1 (.bool true)
  have hm1 : SMapE w1 S.mb S.N S.F := SMap.loc hL.fr.map (hst.touch hml hL.a2)
  have hW : Writes [some S.gs] w1 (w1.setCell ⟨S.gs, 1, none⟩ (.bool true)) := Writes.store w1 (p := ⟨S.gs, 1, none⟩) (by simp) _
  have hb : ∀ x, x ≠ S.gs → (w1.setCell ⟨S.gs, 1, none⟩ (.bool true)).heap[x]? = w1.heap[x]? := fun x hx => Below.heap_setCell w1 ⟨S.gs, 1, none⟩ _ x hx
  have hsz : (w1.setCell ⟨S.gs, 1, none⟩ (.bool true)).heap.size = w1.heap.size := by simp [World.setCell]
  have hsame := hput.same
  refine ⟨?_, ⟨⟨hh2, SMap.loc hm1 (hb _ (fun e => hL.fr.ne e.symm)), hL.fr.ne⟩, hst.post.loc (fun x hx => hb x (fun e => a1' (.inr (e ▸ hx)))), hsame.1.trans hL.log.hn, hsame.2.trans hL.log.hsz, fun X hX => ?_⟩, fun x hx => ⟨?_, ?_⟩⟩
  · exact (hst.tch.more (fun k _ hk => .inr (.inr hk))).trans (Tch.of_writes hW (fun k hk => by simp at hk; exact .inl hk))
  · cases hput with
    | long h1 _ => have := congrArg (fun x => x.2.2) h1; simp at this
    | full h1 _ _ => have := congrArg (fun x => x.2.2) h1; simp at this
    | done h1 => cases h1
    | dead _ _ _ _ hm =>
      rcases hm X hX with g | ⟨h', slot', h1, g⟩
      · exact ⟨_, _, _, g, Nat.le_add_right _ _, .inl hL.recs⟩
      · exact ⟨_, _, _, g, h1, .inr hrec⟩
  · rcases hx with rfl | rfl | rfl | hx
    · exact .inl (.inl rfl)
    · exact .inl (.inr (.inl rfl))
    · exact .inl (.inr (.inr (.inl rfl)))
    · rcases hst.F x hx with e | e
      · exact .inl (.inr (.inr (.inr e)))
      · exact .inr e
  · rw [hsz]
    rcases hx with rfl | rfl | rfl | hx
    · show S.gs < _; omega
    · show S.mb < _; omega
    · have := hL.log.log.lt; show S.l.g < _; omega
    · exact hst.post.lt x hx
/-- A put that did not fit. -/
theorem live_full (hL : LiveP n s S w) (hst : LStep S.l S.q w l' q' w1) (hput : PutR S.q.abs S.l h0 ls S.all next n s (q'.abs, l', code)) (hc : code ≠ 0) (hc2 : code ≠ 32) :
    Upd (LiveC n s S) w (LiveC n s ⟨S.gs, S.mb, S.N, S.F, S.l, q', S.all⟩) w1 := by
  obtain ⟨h1, rfl, _⟩ := hput.refused hL.log hst hc hc2
  have hgl := hL.fr.hold.lt
  have hml := SMap.lt hL.fr.map
  have hs1 := hst.wrt.size
  have hh1 : Holds w1 S.gs 58 (stV S.l.g false S.mb) := (hst.touch hgl hL.a1).trans hL.fr.hold
  refine ⟨hst.tch.more (fun k _ hk => .inr (.inr hk)), ⟨⟨hh1, SMap.loc hL.fr.map (hst.touch hml hL.a2), hL.fr.ne⟩, h1, hL.recs, hst.off hgl hL.a1, hst.off hml hL.a2⟩, fun x hx => ⟨?_, ?_⟩⟩
  · rcases hx with rfl | rfl | hx
    · exact .inl (.inl rfl)
    · exact .inl (.inr (.inl rfl))
    · rcases hst.fl x hx with e | e
      · exact .inl (.inr (.inr e))
      · exact .inr e
  · rcases hx with rfl | rfl | hx
    · show S.gs < _; omega
    · show S.mb < _; omega
    · exact hst.fl_lt hx
/-- Which codes a put may have. -/
theorem PutR.codes {d : AD} {l : LR} {all : List (List UInt8)} (h : PutR d l h0 ls all next n s (q'.abs, l', code)) (ht : tooLong ls = false) : code = 0 ∨ code = 32 ∨ (code = 40 ∧ half n * s - h0.used < (framesF ls).length) := by
  cases h with
  | long _ h2 => rw [ht] at h2; cases h2
  | full h1 _ h3 => exact .inr (.inr ⟨congrArg (fun x => x.2.2) h1, h3⟩)
  | done h1 => exact .inl h1
  | dead h1 => exact .inr (.inl h1)
end
/-- What Apply and Compact leave: done, or no power. -/
def ApplyE (n s : Nat) (S : SR) (F2 : ByteArray → Option ByteArray) (N2 : Nat) (w : World) (e : Ending) (w' : World) : Prop :=
  (∃ S', e = .returned (.int .i64 0) ∧ Upd (LiveC n s S) w (LiveC n s S') w' ∧ S'.gs = S.gs ∧ S'.mb = S.mb ∧ S'.q.g = S.q.g ∧ S'.F = F2 ∧ S'.N = N2 ∧ S'.l.serial ≤ S.l.serial + 2 ∧ (S.q.cut = false → S'.q.cut = false)) ∨
  (∃ S', S.q.cut = true ∧ e = .returned (.int .i64 32) ∧ Upd (LiveC n s S) w (DeadC n s S' F2) w' ∧ S'.gs = S.gs ∧ S'.mb = S.mb ∧ S'.q.g = S.q.g ∧ S'.F = S.F ∧ S'.N = S.N ∧ S'.l = S.l)
end Go.Proofs.YtelglbblgkhcmaaGreat
namespace Go.Proofs.YtelglbblgkhcmaaGreat
open Go.RowKit Go.Deep

/-- A region whose operation n calls what answers a number, its ghost, and leaves F. -/
def CG (n m : Nat) (w0 : World) (F : Nat → World → Prop) (L : Nat → Bool) (W : World × Option Nat) : Prop := (L n = false → Below w0.heap.size w0 W.1 ∧ W.2 = none) ∧ (L n = true → L m = true ∧ ∃ c, W.2 = some c ∧ F c W.1)
def GG (n i : Nat) (W W' : World × Option Nat) : Prop := i ≠ n → Below W.1.heap.size W.1 W'.1 ∧ W'.2 = W.2
section
variable {n m i : Nat} {w0 w w' : World} {F : Nat → World → Prop} {L : Nat → Bool} {γ : Option Nat} {W : World × Option Nat}
theorem CG.start (hb : Below w0.heap.size w0 w) (h1 : L n = false) : CG n m w0 F L (w, none) := ⟨fun _ => ⟨hb, rfl⟩, fun e => by simp [h1] at e⟩
theorem CG.bel (h : CG n m w0 F L W) (hn : L n = false) : Below w0.heap.size w0 W.1 := (h.1 hn).1
theorem CG.got (h : CG n m w0 F L W) (hn : W.2 ≠ none) : L n = true := by
  cases e : L n with
  | true => rfl
  | false => exact absurd (h.1 e).2 hn
theorem CG.go (h : CG n m w0 F L (w, γ)) (hn : L n = false) (hi : n ≠ i) (hb : Below w.heap.size w w') : CG n m w0 F (fun k => k == i || L k) (w', γ) :=
  ⟨fun _ => ⟨(h.1 hn).1.trans (hb.mono (h.1 hn).1.size), (h.1 hn).2⟩, fun e => by simp [hi, hn] at e⟩
theorem CG.last {c : Nat} (hm : L m = true) (hF : F c w') : CG n m w0 F (fun k => k == n || L k) (w', some c) := ⟨fun e => by simp at e, fun _ => ⟨by simp [hm], c, rfl, hF⟩⟩
theorem CG.past (h : CG n m w0 F L W) (hn : L n = true) : CG n m w0 F (fun k => k == i || L k) W := ⟨fun e => by simp [hn] at e, fun _ => ⟨by simp [(h.2 hn).1], (h.2 hn).2⟩⟩
end
theorem relUpon_callG {P : Program} {Γ : Type} {A B : World × Γ → Prop} {D : World × Γ → Value → Prop} {r : Result Next} {f : FuncId} {args : Array Value} {w : World} {R : Ending → World → Prop} (hr : r = .ok (.enter f args) w) (hc : Calls P f args w R)
    (h : ∀ e w', R e w' → ∃ v, e = .returned v ∧ ∃ γ, A (w', γ) ∧ B (w', γ) ∧ D (w', γ) v) : relUpon P (fun v w' => ∃ γ, A (w', γ) ∧ B (w', γ) ∧ D (w', γ) v) r := by
  subst hr
  exact hc.mono h
/-- What renew leaves, upon a snapshot of F2. -/
def RenewF (n s : Nat) (S : SR) (F2 : ByteArray → Option ByteArray) (wb : World) (c : Nat) (w' : World) : Prop :=
  ∃ ks l' q' w1, KeysL (fun k => (F2 k).map entV) ks ∧ LStep S.l S.q wb l' q' w1 ∧ PutR S.q.abs S.l ⟨0, 1 - S.l.area, 0, (snapF F2 ks).length⟩ (snapF F2 ks) S.all (snapF F2 ks) n s (q'.abs, l', c) ∧ (S.q.cut = false → c ≠ 32 ∧ q'.cut = false) ∧ w' = noted w1 S.gs c
theorem RenewF.mk {n s : Nat} {S : SR} {F2 : ByteArray → Option ByteArray} {wb w w1 w' : World} {c : Nat} {ks : List (List UInt8)} {l' : LR} {q' : DR} (hL : LiveP n s S wb) (hw : Below wb.heap.size wb w) (hks : KeysL (fun k => (F2 k).map entV) ks) (hst : LStep S.l S.q w l' q' w1)
    (hput : PutR S.q.abs S.l ⟨0, 1 - S.l.area, 0, (snapF F2 ks).length⟩ (snapF F2 ks) S.all (snapF F2 ks) n s (q'.abs, l', c)) (hlive : S.q.cut = false → c ≠ 32 ∧ q'.cut = false) (hw' : w' = noted w1 S.gs c) : RenewF n s S F2 wb c w' :=
  ⟨ks, l', q', w1, hks, LStep.ahead hL.log.log hL.log.disk hw hst, hput, hlive, hw'⟩
set_option maxRecDepth 100000 in
set_option maxHeartbeats 4000000 in
theorem compact_any {n s : Nat} (hn1 : 16 ≤ n) (hs : 128 ≤ s) (wb : World) (S : SR) (hL : LiveP n s S wb) (hser : S.l.serial + 2 ≤ 4611686018427387904) (hN : S.N ≤ 100000) (hF : FSm S.F) (hfit : FitF n s S.F) :
    Calls Tryz.prog 20 #[.pointer (some ⟨S.gs, 0, none⟩)] wb (ApplyE n s S S.F S.N wb) := by
  have c1 : wb.cell? ⟨S.gs, 1, none⟩ = some (.bool false) := hL.fr.hold.cell 1
  have hg2 : Hid (S.gs < wb.heap.size ∧ wb.cell? ⟨S.gs, 2, none⟩ = some (.map (some S.mb))) := Lib.hid ⟨hL.fr.hold.lt, hL.fr.hold.cell 2⟩
  have hmx : Hid (SMapE wb S.mb S.N S.F) := Lib.hid hL.fr.map
  replace hL := Lib.hid hL
  replace hser := Lib.hid hser
  replace hN := Lib.hid hN
  have hok2 : Hid (FOk S.F) := Lib.hid hF.ok
  replace hF := Lib.hid hF
  replace hfit := Lib.hid hfit
  obtain ⟨F2, hF2⟩ : ∃ x, x = S.F := ⟨_, rfl⟩
  obtain ⟨N2, hN2'⟩ : ∃ x, x = S.N := ⟨_, rfl⟩
  rw [← hF2] at hmx hok2 hF hfit ⊢
  rw [← hN2'] at hmx hN ⊢
  have hN2 := hN
  replace hF2 := Lib.hid hF2
  replace hN2' := Lib.hid hN2'
  go_enter Tryz.func20, Tryz.ntmps20
  go_wp2_with fail
  -- THE REGION THAT DRAWS ITS ORDER, BY ONE LEXICAL WALK OVER GENERIC VALUES (written by relgen.py)
  refine wp_region_tabG ((fun _ _ v => v = .pointer (some ⟨S.gs, 0, none⟩)) ::
    (fun _ _ v => v = .pointer (some ⟨S.gs, 0, none⟩)) ::
    (fun _ _ v => v = .pointer (some ⟨S.gs, 0, none⟩)) ::
    (fun _ _ v => v = .pointer (some ⟨S.gs, 0, none⟩)) ::
    (fun _ _ v => v = .pointer (some ⟨S.gs, 0, none⟩)) ::
    (fun _ _ v => v = .pointer (some ⟨S.gs, 2, none⟩)) ::
    (fun _ _ v => v = .map (some S.mb)) ::
    (fun L (W : World × Option Nat) v => ∃ A mm c ks, v = .slice A mm c ∧ KeysL (fun k => (F2 k).map entV) ks ∧ (snapF F2 ks).length = mm ∧ mm ≤ 100000 ∧ Till 8 (fun w _ => Slices w w.heap.size A (snapF F2 ks)) L W.1 v) ::
    (fun L (W : World × Option Nat) v => L 8 = true → ∃ code : Nat, W.2 = some code ∧ v = .int .i64 code) ::
    (fun L (W : World × Option Nat) v => ∃ code : Nat, W.2 = some code ∧ v = .int .i64 code) :: [])
    (⟨[(0, none)], 0, [8]⟩ :: ⟨[(8, some 0)], 0, [8]⟩ :: ⟨[(9, some 1)], 0, [8]⟩ :: ⟨[(0, none)], 0, [8]⟩ :: ⟨[(11, some 3)], 0, [8]⟩ :: ⟨[(12, some 4)], 0, [8]⟩ :: ⟨[(13, some 5)], 0, [8]⟩ :: ⟨[(14, some 6)], 0, [8]⟩ :: ⟨[(10, some 2), (15, some 7)], 0, []⟩ :: ⟨[(16, some 8)], 0, []⟩ :: [])
    (none :: none :: some 9 :: none :: none :: none :: none :: none :: some 0 :: some 1 :: some 2 :: some 3 :: some 4 :: some 5 :: some 6 :: some 7 :: some 8 :: [])
    (fun L (W : World × Option Nat) => CG 8 7 wb (RenewF n s S F2 wb) L W) (fun i (W W' : World × Option Nat) => GG 8 i W W') ?mixK3renewC ?okK3renewC ?tabK3renewC ?frK3renewC ?inK3renewC ?keptK3renewC (none : Option Nat) ?startK3renewC ?eachK3renewC ?finK3renewC
  case mixK3renewC => kernel_rfl
  case okK3renewC => kernel_rfl
  case tabK3renewC => kernel_rfl
  case frK3renewC => kernel_rfl
  case inK3renewC => rfl
  case keptK3renewC => exact ⟨fun _ _ _ _ _ _ _ _ _ _ _ h => h, fun _ _ _ _ _ _ _ _ _ _ _ h => h, fun _ _ _ _ _ _ _ _ _ _ _ h => h, fun _ _ _ _ _ _ _ _ _ _ _ h => h, fun _ _ _ _ _ _ _ _ _ _ _ h => h, fun _ _ _ _ _ _ _ _ _ _ _ h => h, fun _ _ _ _ _ _ _ _ _ _ _ h => h, fun i hne hrd L W W' v hLi hC hC' hG ⟨A, mm, c, ks, e1, e2, e3, e4, h⟩ => ⟨A, mm, c, ks, e1, e2, e3, e4, fun e9 => by
        simp only [Bool.or_eq_false_iff, beq_eq_false_iff_ne] at e9
        exact (h e9.2).up (hG (fun e => e9.1 e.symm)).1⟩, fun i hne hrd L W W' v hLi hC hC' hG h h9 => by
        simp only [Bool.or_eq_true, beq_iff_eq] at h9
        obtain ⟨code, e1, e2⟩ := h (h9.resolve_left (fun e => hne e.symm))
        exact ⟨code, (hG (fun e => hne e)).2.trans e1, e2⟩, fun i hne hrd L W W' v hLi hC hC' hG h => by
        have hn9 : L 8 = true := by
          obtain ⟨c, e1, e2⟩ := h
          exact hC.got (by rw [e1]; simp)
        obtain ⟨code, e1, e2⟩ := h
        exact ⟨code, (hG (fun e => by subst e; rw [hLi] at hn9; cases hn9)).2.trans e1, e2⟩, trivial⟩
  case startK3renewC => exact CG.start (Below.refl _ _).drew rfl
  case eachK3renewC =>
    refine ⟨?_, ?_, ?_, ?_, ?_, ?_, ?_, ?_, ?_, ?_, trivial⟩
    -- 0: slot 8 := move t0
    · intro w γ L f hC hLi hLd hLn hF
      obtain ⟨d0, _⟩ := hF
      have d0 : f 0 = .pointer (some ⟨S.gs, 0, none⟩) := d0
      refine Step2.live rfl ?_
      refine relUpon_ghost γ ?_
      exact relUpon_value (v := f 0) rfl (hC.go (i := 0) (hLn 8 (by simp)) (by decide) (Below.refl _ _)) (fun _ => ⟨Below.refl _ _, rfl⟩) d0
    -- 1: slot 9 := nilCheck t8
    · intro w γ L f hC hLi hLd hLn hF
      obtain ⟨d8, _⟩ := hF
      have d8 : f 8 = .pointer (some ⟨S.gs, 0, none⟩) := d8
      refine Step2.live rfl ?_
      refine relUpon_ghost γ ?_
      have ev : ∀ t, evalOf f (.tmp t) = f t := fun _ => rfl
      have ec : ∀ c, evalOf f (.const c) = c := fun _ => rfl
      have ef : ∀ g, evalOf f (.func g) = .func (.func g) #[] #[] := fun _ => rfl
      refine relUpon_value ?_ (hC.go (i := 1) (hLn 8 (by simp)) (by decide) (Below.refl _ _)) (fun _ => ⟨Below.refl _ _, rfl⟩) rfl
      go_simp
    -- 2: slot 10 := fieldAddr 58 t9 0
    · intro w γ L f hC hLi hLd hLn hF
      obtain ⟨d9, _⟩ := hF
      have d9 : f 9 = .pointer (some ⟨S.gs, 0, none⟩) := d9
      refine Step2.live rfl ?_
      refine relUpon_ghost γ ?_
      have ev : ∀ t, evalOf f (.tmp t) = f t := fun _ => rfl
      have ec : ∀ c, evalOf f (.const c) = c := fun _ => rfl
      have ef : ∀ g, evalOf f (.func g) = .func (.func g) #[] #[] := fun _ => rfl
      refine relUpon_value ?_ (hC.go (i := 2) (hLn 8 (by simp)) (by decide) (Below.refl _ _)) (fun _ => ⟨Below.refl _ _, rfl⟩) rfl
      go_simp
    -- 3: slot 11 := move t0
    · intro w γ L f hC hLi hLd hLn hF
      obtain ⟨d0, _⟩ := hF
      have d0 : f 0 = .pointer (some ⟨S.gs, 0, none⟩) := d0
      refine Step2.live rfl ?_
      refine relUpon_ghost γ ?_
      exact relUpon_value (v := f 0) rfl (hC.go (i := 3) (hLn 8 (by simp)) (by decide) (Below.refl _ _)) (fun _ => ⟨Below.refl _ _, rfl⟩) d0
    -- 4: slot 12 := nilCheck t11
    · intro w γ L f hC hLi hLd hLn hF
      obtain ⟨d11, _⟩ := hF
      have d11 : f 11 = .pointer (some ⟨S.gs, 0, none⟩) := d11
      refine Step2.live rfl ?_
      refine relUpon_ghost γ ?_
      have ev : ∀ t, evalOf f (.tmp t) = f t := fun _ => rfl
      have ec : ∀ c, evalOf f (.const c) = c := fun _ => rfl
      have ef : ∀ g, evalOf f (.func g) = .func (.func g) #[] #[] := fun _ => rfl
      refine relUpon_value ?_ (hC.go (i := 4) (hLn 8 (by simp)) (by decide) (Below.refl _ _)) (fun _ => ⟨Below.refl _ _, rfl⟩) rfl
      go_simp
    -- 5: slot 13 := fieldAddr 58 t12 1
    · intro w γ L f hC hLi hLd hLn hF
      obtain ⟨d12, _⟩ := hF
      have d12 : f 12 = .pointer (some ⟨S.gs, 0, none⟩) := d12
      refine Step2.live rfl ?_
      refine relUpon_ghost γ ?_
      have ev : ∀ t, evalOf f (.tmp t) = f t := fun _ => rfl
      have ec : ∀ c, evalOf f (.const c) = c := fun _ => rfl
      have ef : ∀ g, evalOf f (.func g) = .func (.func g) #[] #[] := fun _ => rfl
      refine relUpon_value ?_ (hC.go (i := 5) (hLn 8 (by simp)) (by decide) (Below.refl _ _)) (fun _ => ⟨Below.refl _ _, rfl⟩) rfl
      go_simp
    -- 6: slot 14 := load 56 t13
    · intro w γ L f hC hLi hLd hLn hF
      obtain ⟨d13, _⟩ := hF
      have d13 : f 13 = .pointer (some ⟨S.gs, 2, none⟩) := d13
      refine Step2.live rfl ?_
      have hw := hC.bel (hLn 8 (by simp))
      have c2 := (hw.cell (p := ⟨S.gs, 2, none⟩) hg2.out.1).trans hg2.out.2
      refine relUpon_ghost γ ?_
      have ev : ∀ t, evalOf f (.tmp t) = f t := fun _ => rfl
      have ec : ∀ c, evalOf f (.const c) = c := fun _ => rfl
      have ef : ∀ g, evalOf f (.func g) = .func (.func g) #[] #[] := fun _ => rfl
      refine relUpon_value ?_ (hC.go (i := 6) (hLn 8 (by simp)) (by decide) (Below.refl _ _)) (fun _ => ⟨Below.refl _ _, rfl⟩) rfl
      go_simp
    -- 7: slot 15 := call { value (Operand.func 34), args := #[t14], argTypes := #[56] }
    · intro w γ L f hC hLi hLd hLn hF
      obtain ⟨d14, _⟩ := hF
      have d14 : f 14 = .map (some S.mb) := d14
      refine Step2.live rfl ?_
      have hw := hC.bel (hLn 8 (by simp))
      refine relUpon_ghost γ ?_
      have ev : ∀ t, evalOf f (.tmp t) = f t := fun _ => rfl
      have ec : ∀ c, evalOf f (.const c) = c := fun _ => rfl
      have ef : ∀ g, evalOf f (.func g) = .func (.func g) #[] #[] := fun _ => rfl
      refine relUpon_call (f := 34) (args := #[.map (some S.mb)]) (w := w) (by go_simp) (snapshot_any w S.mb N2 F2 (hmx.out.loc (hw.block _ hmx.out.lt)) hN2.out hok2.out) ?_
      rintro e w1 ⟨v, ps, ks, he, hks, hkl, hR, hps, hB⟩
      obtain ⟨A, c, e2, hsl, _⟩ := hR.slices
      rw [hps] at hsl
      refine ⟨v, he, hC.go (i := 7) (hLn 8 (by simp)) (by decide) hB, fun _ => ⟨hB, rfl⟩, A, ps.length, c, ks, e2, hks, ?_, ?_, fun _ => hsl⟩
      · rw [← hps, List.length_map]
      · have := congrArg List.length hps
        simp only [snapF, List.length_map] at this
        have := hN2.out
        omega
    -- 8: slot 16 := call { value (Operand.func 33), args := #[t10, t15], argTypes := #[55, 72] }
    · intro w γ L f hC hLi hLd hLn hF
      obtain ⟨d10, d15, _⟩ := hF
      have d10 : f 10 = .pointer (some ⟨S.gs, 0, none⟩) := d10
      refine Step2.live rfl ?_
      have hw := hC.bel hLi
      obtain ⟨A, mm, c, ks, e57, hks, hmm, hml, hT⟩ := d15
      have hsl := hT hLi
      have ev : ∀ t, evalOf f (.tmp t) = f t := fun _ => rfl
      have ec : ∀ c, evalOf f (.const c) = c := fun _ => rfl
      have ef : ∀ g, evalOf f (.func g) = .func (.func g) #[] #[] := fun _ => rfl
      refine relUpon_callG (f := 33) (args := #[.pointer (some ⟨S.gs, 0, none⟩), .slice A mm c]) (w := w) (by go_simp) (renew_any (S := S) hn1 hs (hL.out.below hw) hser.out A mm c (snapF F2 ks) hmm hml hsl) ?_
      rintro e w1 ⟨l', q', code, w2, he, hst, hput, hlive, hw2⟩
      exact ⟨_, he, some code, CG.last (hLd 7 (by decide)) (RenewF.mk hL.out hw hks hst hput hlive hw2), fun h => absurd rfl h, fun _ => ⟨code, rfl, rfl⟩⟩
    -- 9: slot 2 := assign t16
    · intro w γ L f hC hLi hLd hLn hF
      obtain ⟨d16, _⟩ := hF
      refine Step2.live rfl ?_
      refine relUpon_ghost γ ?_
      obtain ⟨code, e1, e2⟩ := d16 (hLd 8 (by decide))
      exact relUpon_value (v := f 16) rfl (CG.past hC (hLd 8 (by decide))) (fun _ => ⟨Below.refl _ _, rfl⟩) ⟨code, e1, e2⟩
  intro x w' γ hC hV

  obtain ⟨code, hg, e2⟩ := hV 9 _ rfl rfl
  obtain ⟨_, c', hg', hR⟩ := hC.2 rfl
  obtain rfl : code = c' := Option.some.inj (hg.symm.trans hg')
  clear hV hC hg hg'
  simp only [framed]
  rw [e2]
  clear e2
  have hfin : Hid (ApplyE n s S F2 N2 wb (.returned (.int .i64 code)) w') := Lib.hid (by
    obtain ⟨ks, l', q', w1, hks, hst, hput, hlive, hw'⟩ := hR
    have ht := notLong_snap hks hF.out
    have hf := hfit.out ks hks
    have hrec := RecsF.snap hks hF.out
    rcases hput.codes ht with e | e | ⟨_, e⟩
    · subst e
      rw [noted, if_neg (by omega)] at hw'
      subst hw'
      obtain ⟨h1, h2⟩ := live_next hL.out hst hput hrec (w2 := w') (N2 := N2) (by rw [hF2.out, hN2'.out]; exact SMap.loc hL.out.fr.map (hst.touch (SMap.lt hL.out.fr.map) hL.out.a2)) (Writes.refl _ _)
      exact .inl ⟨_, rfl, h1, rfl, rfl, hst.g, rfl, rfl, h2, fun hc => (hlive hc).2⟩
    · subst e
      rw [noted, if_pos rfl] at hw'
      subst hw'
      refine .inr ⟨_, ?_, rfl, dead_next hL.out hst hput hrec, rfl, rfl, hst.g, rfl, rfl, rfl⟩
      cases hc : S.q.cut with
      | true => rfl
      | false => exact absurd rfl (hlive hc).1
    · exfalso
      change half n * s - 0 < _ at e
      omega)
  clear hR
  go_wp2_with fail
  go_ret
  exact hfin.out
end Go.Proofs.YtelglbblgkhcmaaGreat
namespace Go.Proofs.YtelglbblgkhcmaaGreat
open Go.RowKit Go.Deep

theorem str_apart {w : World} {l : LR} {q : DR} (hl : LogP l q w) (hq : DiskP q w) {b o : Nat} {s : ByteArray} (h0 : w.cell? ⟨b, o, none⟩ = some (.string s)) : b ≠ l.g ∧ b ≠ q.g ∧ b ≠ q.md ∧ b ≠ q.mw := by
  refine ⟨?_, ?_, ?_, ?_⟩
  · rintro rfl
    have hh : Holds w l.g 104 (l.cells q.g) := hl
    rw [hh.cell] at h0
    match o, h0 with
    | 0, h0 => simp [LR.cells] at h0
    | 1, h0 => simp [LR.cells] at h0
    | 2, h0 => simp [LR.cells] at h0
    | 3, h0 => simp [LR.cells] at h0
    | 4, h0 => simp [LR.cells] at h0
    | 5, h0 => simp [LR.cells] at h0
    | k + 6, h0 => simp [LR.cells] at h0
  · rintro rfl
    rw [hq.hold.cell] at h0
    match o, h0 with
    | 0, h0 => simp [DR.cells] at h0
    | 1, h0 => simp [DR.cells] at h0
    | 2, h0 => simp [DR.cells] at h0
    | 3, h0 => simp [DR.cells] at h0
    | 4, h0 => simp [DR.cells] at h0
    | 5, h0 => simp [DR.cells] at h0
    | 6, h0 => simp [DR.cells] at h0
    | k + 7, h0 => simp [DR.cells] at h0
  · rintro rfl
    obtain ⟨⟨n, D, _, ⟨es, clock, hm, _⟩, _⟩, _⟩ := hq.md
    simp [World.cell?, hm] at h0
  · rintro rfl
    obtain ⟨⟨n, D, _, ⟨es, clock, hm, _⟩, _⟩, _⟩ := hq.mw
    simp [World.cell?, hm] at h0
/-- A row of pairs stays. -/
theorem LStep.pairs {l l' : LR} {q q' : DR} {w w' : World} (h : LStep l q w l' q' w') (hl : LogP l q w) (hq : DiskP q w) {B : Nat} {A : Option Addr} {ps : List PairR} (hr : Row w B A (ps.flatMap PairR.cells)) : Row w' B A (ps.flatMap PairR.cells) := fun hn => by
  obtain ⟨b, off, e, hb, hc⟩ := hr hn
  refine ⟨b, off, e, hb, fun j u hu => ?_⟩
  rw [← hc j u hu]
  have h0 : ∃ s, w.cell? ⟨b, off + 0, none⟩ = some (.string s) := by
    cases ps with
    | nil => exact absurd rfl hn
    | cons p t => exact ⟨p.k, hc 0 _ rfl⟩
  obtain ⟨s, h0⟩ := h0
  obtain ⟨a1, a2, a3, a4⟩ := str_apart hl hq h0
  exact World.cell?_of_block (h.wrt.block b (cell_lt h0) (by simp; exact ⟨a1, a2, a3, a4⟩))
theorem normP_false (k v : ByteArray) : normP ⟨k, v, false⟩ = ⟨k, v, false⟩ := rfl
theorem normP_true (k v : ByteArray) : normP ⟨k, v, true⟩ = ⟨k, ⟨#[]⟩, true⟩ := rfl
def packs (ps : List PairR) : List (List UInt8) := (ps.map normP).map packE
theorem packs_take (ps : List PairR) {k : Nat} (h : k < ps.length) : (packs ps).take (k + 1) = (packs ps).take k ++ [packE (normP ps[k])] := by
  unfold packs
  rw [List.take_add_one, List.getElem?_eq_getElem (by simpa using h)]
  simp
theorem packs_length (ps : List PairR) : (packs ps).length = ps.length := by simp [packs]
set_option maxRecDepth 100000 in
set_option maxHeartbeats 8000000 in
theorem apply_any {n s : Nat} (hn1 : 16 ≤ n) (hs : 128 ≤ s) (w : World) (S : SR) (hL : LiveP n s S w) (hser : S.l.serial + 2 ≤ 4611686018427387904) (A : Option Addr) (m c : Nat) (ps : List PairR) (hm : ps.length = m) (hr : Row w w.heap.size A (ps.flatMap PairR.cells)) (hps : ∀ p ∈ ps, p.sm) (hN : S.N + m ≤ 100000) (hF : FSm S.F) (hfit : FitF n s (ps.foldl chg S.F)) :
    Calls Tryz.prog 12 #[.pointer (some ⟨S.gs, 0, none⟩), .slice A m c] w (ApplyE n s S (ps.foldl chg S.F) (S.N + m) w) := by
  obtain ⟨iS, hiS, hzS0, hzS1, hzS2⟩ := info_parts Tryz.rSl
  have c1 : w.cell? ⟨S.gs, 1, none⟩ = some (.bool false) := hL.fr.hold.cell 1
  replace hL := Lib.hid hL
  replace hser := Lib.hid hser
  have hF2 : Hid (FSm (ps.foldl chg S.F)) := Lib.hid (hF.fold hps)
  have hok2 : Hid (FOk (ps.foldl chg S.F)) := Lib.hid hF2.out.ok
  replace hF := Lib.hid hF
  replace hfit := Lib.hid hfit
  replace hr := Lib.hid hr
  replace hps := Lib.hid hps
  have hmx : m ≤ 100000 := by omega
  replace hN := Lib.hid hN
  replace hm := Lib.hid hm
  obtain ⟨F2, hFe⟩ : ∃ x, x = ps.foldl chg S.F := ⟨_, rfl⟩
  rw [← hFe] at hF2 hok2 hfit ⊢
  replace hFe := Lib.hid hFe
  go_enter Tryz.func12, Tryz.ntmps12
  go_wp2_with fail
  clear c1
  go_loopw [5, 17] (fun v iv wr => ∃ (k : Nat) (ys : List Pay), k ≤ m ∧ iv = .int .i64 k ∧ Hid (RecsAt w.heap.size wr v ys) ∧ Hid (ys.map (·.l) = (packs ps).take k) ∧ Hid (Below w.heap.size w wr)) (fun _ iv _ => m - (intOf iv).toNat)
  case atStart => exact ⟨0, [], by omega, rfl, Lib.hid (.nil_ _ _), Lib.hid (by simp), Lib.hid (Below.refl _ _)⟩
  obtain ⟨k, ys, hk, rfl, hR, hys, hB⟩ := hrel
  rename World => wo
  obtain ⟨Av, cv, rfl, _⟩ := own_row hR.out.1
  have hyl : Hid (ys.length = k) := Lib.hid (by
    have := congrArg List.length hys.out
    simp only [List.length_map, List.length_take, packs_length, hm.out] at this
    omega)
  by_cases hkm : k < m
  · have hkl : k < ps.length := by rw [hm.out]; exact hkm
    obtain ⟨b, off, rfl, _, _, hcell⟩ := Row.elem (C := 3) (hr.out.below hB.out) (fun _ _ => rfl) (by omega) hkl
    have q0 : wo.cell? ⟨b, off + k * 3, none⟩ = some (.string ps[k].k) := hcell 0 _ rfl
    have q1 : wo.cell? ⟨b, off + k * 3 + 1, none⟩ = some (.string ps[k].v) := hcell 1 _ rfl
    have q2 : wo.cell? ⟨b, off + k * 3 + 2, none⟩ = some (.bool ps[k].gone) := hcell 2 _ rfl
    have hpo := hps.out ps[k] (List.getElem_mem hkl)
    have hst : Hid ((packs ps).take (k + 1) = (packs ps).take k ++ [packE (normP ps[k])]) := Lib.hid (packs_take ps hkl)
    clear hcell
    generalize ps[k] = p at *
    obtain ⟨pk, pv, pg⟩ := p
    simp only at q0 q1 q2
    have hk1 : pk.size ≤ 1000 := hpo.1
    have hv1 : pv.size ≤ 1000 := hpo.2
    have hpn := Lib.hid (normP_sm hpo).ok
    clear hpo
    have hsz : Hid (w.heap.size ≤ wo.heap.size) := Lib.hid hB.out.size
    cases pg
    case' false => rw [normP_false] at hst hpn
    case' true => rw [normP_true] at hst hpn
    all_goals
      go_wp2_with fail
      refine (pack_any _ _ hpn.out).mono ?_
      rintro e w3 ⟨y, rfl, hyl0, hyo, hyb0⟩
      have hyb := (below_new wo _).trans (hyb0.mono (by simp))
      have hR2 : Hid (RecsAt w.heap.size w3 (.slice Av ys.length cv) ys) := Lib.hid (hR.out.below hyb)
      have hy2 : Hid (w3.ownsRow w.heap.size 5 1 y.val y.l.length (y.l.map byteV)) := Lib.hid (own_base hyo (by have := hsz.out; simp; omega))
      have hB3 : Hid (Below w.heap.size w w3) := Lib.hid (hB.out.trans (hyb.mono hsz.out))
      have hylk := Lib.hid hyl0
      clear hyl0 hyo hyb0 hyb hR hB
      have hb3 := below_new w3 (.cells #[y.val] 37)
      have hR3 : Hid (RecsAt w.heap.size (w3.alloc (.cells #[y.val] 37)) (.slice Av ys.length cv) ys) := Lib.hid (hR2.out.below hb3)
      have hp3 : Hid ((w3.alloc (.cells #[y.val] 37)).ownsRow w.heap.size 5 1 y.val y.l.length (y.l.map byteV)) := Lib.hid (own_below hy2.out hb3)
      have hrow3 : Hid (Row (w3.alloc (.cells #[y.val] 37)) (w3.alloc (.cells #[y.val] 37)).heap.size (some ⟨w3.heap.size, 0, none⟩) [y.val]) := Lib.hid (Row.one w3 37 _)
      have hone : Hid (∀ u ∈ [y.val], u.oneCell' = true) := Lib.hid (fun u hu => by rw [List.mem_singleton.1 hu]; rfl)
      have hBa : Hid (Below w.heap.size w (w3.alloc (.cells #[y.val] 37))) := Lib.hid (hB3.out.trans (hb3.mono hB3.out.size))
      have hpl : ys.length ≤ 100000 := by have := hyl.out; omega
      clear hb3 hR2 hy2 hB3
      unfold Pay.val at hrow3 hone hR3 hp3 hBa ⊢
      go_wp2_with
        (with_reducible refine at_slot 36 ?_
         go_loud (refine wpList_append_row _ rfl (.tmp 32) (.tmp 35) 72 rfl w.heap.size 37 iS (.slice none 0 0) 24 Tryz.underlying72 hiS hzS0 hzS1 hzS2 rfl (.slice Av ys.length cv) ys.length (ys.map Pay.val) rfl hR3.out.1 _ (some ⟨w3.heap.size, 0, none⟩) 1 1 [.slice y.A y.l.length y.c] rfl rfl hrow3.out hone.out (by unfold maxLen; omega) (by omega) hBa.out.size ?_)
         intro v4 w4 ho4 hg4 _
         have hR4 : Hid (RecsAt w.heap.size w4 v4 (ys ++ [y])) := Lib.hid (hR3.out.snoc (p := y) hp3.out ho4 hg4)
         have hB4 : Hid (Below w.heap.size w w4) := Lib.hid (hBa.out.trans ((Writes.of_grown hg4 (M := [(Value.slice Av ys.length cv).ownBlock]) (by simp)).below hBa.out.size (fun j hj => own_ge hR3.out.1 (List.mem_singleton.1 hj).symm)))
         clear ho4 hg4)
      refine ⟨⟨k + 1, _, by omega, by simp, hR4, Lib.hid (by rw [List.map_append, hys.out, hst.out, List.map_singleton, hylk.out]), hB4⟩, by simp [intOf]; omega⟩
  · obtain rfl : k = m := by omega
    have hyf : Hid (ys.map (·.l) = packs ps) := Lib.hid (by rw [hys.out]; exact List.take_of_length_le (by rw [packs_length, hm.out]; exact Nat.le_refl _))
    obtain ⟨A2, c2, e2, hsl, _⟩ := hR.out.slices
    rw [hyf.out] at hsl
    injection e2 with e2 _ e3
    subst e2 e3
    rw [hyl.out]
    have hLo := Lib.hid (hL.out.below hB.out)
    have hpl : Hid ((packs ps).length = k) := Lib.hid (by rw [packs_length, hm.out])
    have hsl := Lib.hid hsl
    have hro : Hid (Row wo wo.heap.size A (ps.flatMap PairR.cells)) := Lib.hid ((hr.out.below hB.out).more hB.out.size)
    have hRe := Lib.hid (hL.out.recs.put ps hps.out)
    clear hR hys
    go_wp2_with fail
    refine (add_any hn1 hs hLo.out hser.out Av k cv (packs ps) hpl.out hmx hsl.out).mono ?_
    clear hsl
    rintro e w1 ⟨l', q1, code, w2, rfl, hst, hput, hlive, hw⟩
    have hU0 : Hid (Upd (LiveC n s S) w (LiveC n s S) wo) := Lib.hid ((Upd.refl (c := LiveC n s S) hL.out hL.out.lt).below hB.out)
    have hrow2 : Hid (Row w2 w2.heap.size A (ps.flatMap PairR.cells)) := Lib.hid ((hst.pairs hLo.out.log.log hLo.out.log.disk hro.out).more hst.wrt.size)
    have hnl : tooLong (packs ps) = false := notLong_packs (ps := ps.map normP) (fun p hp => by obtain ⟨x, hx, rfl⟩ := List.mem_map.1 hp; exact normP_sm (hps.out x hx))
    have hpok : Hid (∀ p ∈ ps, p.ok) := Lib.hid (fun p hp => (hps.out p hp).ok)
    have hgl := hLo.out.fr.hold.lt
    have hh2 : Holds w2 S.gs 58 (stV S.l.g false S.mb) := (hst.touch hgl hLo.out.a1).trans hLo.out.fr.hold
    have hm2 : Hid (SMapE w2 S.mb S.N S.F) := Lib.hid (SMap.loc hLo.out.fr.map (hst.touch (SMap.lt hLo.out.fr.map) hLo.out.a2))
    rcases hput.codes hnl with e | e | ⟨e, _⟩
    · subst e
      rw [noted, if_neg (by omega)] at hw
      subst hw
      have c2 : w1.cell? ⟨S.gs, 2, none⟩ = some (.map (some S.mb)) := hh2.cell 2
      replace hst := Lib.hid hst
      replace hput := Lib.hid hput
      replace hlive := Lib.hid hlive
      clear hnl hgl hh2 hro hfit hok2 hF2 hF
      go_wp2_with fail
      refine (change_any w1 S.mb S.N S.F hm2.out A k c ps hm.out hrow2.out hpok.out hN.out).mono ?_
      rintro e w4 ⟨rfl, hm4, hW4⟩
      have hfin : Hid (ApplyE n s S F2 (S.N + k) w (.returned (.int .i64 0)) w4) := Lib.hid (by
        rw [← hFe.out] at hm4
        have hRe' := hRe.out
        rw [← hFe.out] at hRe'
        obtain ⟨h1, h2⟩ := live_next hLo.out hst.out hput.out hRe' hm4 hW4
        exact .inl ⟨_, rfl, hU0.out.trans h1, rfl, rfl, hst.out.g, rfl, rfl, h2, fun hc => (hlive.out hc).2⟩)
      clear hm4 hW4 hm2 hrow2 c2
      go_wp2_with fail
      go_ret
      exact hfin.out
    · subst e
      rw [noted, if_pos rfl] at hw
      subst hw
      have hfin : Hid (ApplyE n s S F2 (S.N + k) w (.returned (.int .i64 32)) (w2.setCell ⟨S.gs, 1, none⟩ (.bool true))) := Lib.hid (by
        have hRe' := hRe.out
        rw [← hFe.out] at hRe'
        refine .inr ⟨_, ?_, rfl, hU0.out.trans (dead_next hLo.out hst hput hRe'), rfl, rfl, hst.g, rfl, rfl, rfl⟩
        cases hc : S.q.cut with
        | true => rfl
        | false => exact absurd rfl (hlive hc).1)
      clear hst hput hlive hnl hgl hh2 hm2 hrow2 hro
      generalize w2.setCell ⟨S.gs, 1, none⟩ (.bool true) = w5 at *
      go_wp2_with fail
      go_ret
      exact hfin.out
    · subst e
      rw [noted, if_neg (by omega)] at hw
      subst hw
      have hU1 := live_full hLo.out hst hput (by omega) (by omega)
      have hL1 : LiveP n s (⟨S.gs, S.mb, S.N, S.F, S.l, q1, S.all⟩ : SR) w1 := hU1.post
      have hU2 : Hid (Upd (LiveC n s S) w (LiveC n s (⟨S.gs, S.mb, S.N, S.F, S.l, q1, S.all⟩ : SR)) w1) := Lib.hid (hU0.out.trans hU1)
      have c2 : w1.cell? ⟨S.gs, 2, none⟩ = some (.map (some S.mb)) := hh2.cell 2
      have hqg : Hid (q1.g = S.q.g) := Lib.hid hst.g
      have hcut1 : Hid (S.q.cut = false → q1.cut = false) := Lib.hid (fun h => (hlive h).2)
      replace hL1 := Lib.hid hL1
      clear hU1 hst hput hlive hnl hgl hh2 hro hU0 hLo hRe hL
      go_wp2_with fail
      refine (cloneS_any w1 S.mb S.N _ hm2.out).mono ?_
      rintro e w3 ⟨rfl, hm3, hB3, hs3⟩
      have hm3 : Hid (SMapE w3 w1.heap.size S.N S.F) := Lib.hid hm3
      have hrow3 : Hid (Row w3 w3.heap.size A (ps.flatMap PairR.cells)) := Lib.hid ((hrow2.out.below hB3).more hB3.size)
      have hs3' := Lib.hid hs3
      have hB3' := Lib.hid hB3
      obtain ⟨mc, hmc⟩ : ∃ x, x = w1.heap.size := ⟨_, rfl⟩
      rw [← hmc] at hm3 ⊢
      have hmc' := Lib.hid hmc
      clear hs3 hB3 hmc c2 hm2
      go_wp2_with fail
      refine (change_any w3 mc S.N S.F hm3.out A k c ps hm.out hrow3.out hpok.out hN.out).mono ?_
      rintro e w4 ⟨rfl, hm4, hW4⟩
      rw [← hFe.out] at hm4
      have hB4 : Hid (Below w1.heap.size w1 w4) := Lib.hid (hB3'.out.trans (hW4.below hB3'.out.size (by have := hmc'.out; simp; omega)))
      have hmx : Hid (SMapE w4 mc (S.N + k) F2) := Lib.hid hm4
      have hrow4 : Hid (Row w4 w4.heap.size A (ps.flatMap PairR.cells)) := Lib.hid ((hrow2.out.below hB4.out).more hB4.out.size)
      clear hm4 hW4 hrow3 hm3 hs3' hB3' hrow2
      obtain ⟨wb, hwb⟩ : ∃ x, x = w4 := ⟨_, rfl⟩
      rw [← hwb] at hB4 hmx hrow4 ⊢
      clear hwb
      obtain ⟨N2, hN2e⟩ : ∃ x, x = S.N + k := ⟨_, rfl⟩
      rw [← hN2e] at hmx ⊢
      have hN2 : Hid (N2 ≤ 100000) := Lib.hid (by have := hN.out; omega)
      replace hN2e := Lib.hid hN2e
      have hL := Lib.hid (hL1.out.below hB4.out)
      have hU3 : Hid (Upd (LiveC n s S) w (LiveC n s (⟨S.gs, S.mb, S.N, S.F, S.l, q1, S.all⟩ : SR)) wb) := Lib.hid (hU2.out.below hB4.out)
      clear hU2 hL1 hB4
      go_wp2_with fail
      -- THE REGION THAT DRAWS ITS ORDER, BY ONE LEXICAL WALK OVER GENERIC VALUES (written by relgen.py)
      refine wp_region_tabG ((fun _ _ v => v = .pointer (some ⟨S.gs, 0, none⟩)) ::
        (fun _ _ v => v = .pointer (some ⟨S.gs, 0, none⟩)) ::
        (fun _ _ v => v = .pointer (some ⟨S.gs, 0, none⟩)) ::
        (fun _ _ v => v = .map (some mc)) ::
        (fun L (W : World × Option Nat) v => ∃ A mm c ks, v = .slice A mm c ∧ KeysL (fun k => (F2 k).map entV) ks ∧ (snapF F2 ks).length = mm ∧ mm ≤ 100000 ∧ Till 5 (fun w _ => Slices w w.heap.size A (snapF F2 ks)) L W.1 v) ::
        (fun L (W : World × Option Nat) v => L 5 = true → ∃ code : Nat, W.2 = some code ∧ v = .int .i64 code) ::
        (fun L (W : World × Option Nat) v => ∃ code : Nat, W.2 = some code ∧ v = .int .i64 code) :: [])
        (⟨[(0, none)], 0, [5]⟩ :: ⟨[(53, some 0)], 0, [5]⟩ :: ⟨[(54, some 1)], 0, [5]⟩ :: ⟨[(9, none)], 0, [5]⟩ :: ⟨[(56, some 3)], 0, [5]⟩ :: ⟨[(55, some 2), (57, some 4)], 0, []⟩ :: ⟨[(58, some 5)], 0, []⟩ :: [])
        (none :: none :: none :: none :: none :: none :: none :: none :: some 6 :: none :: none :: none :: none :: none :: none :: none :: none :: none :: none :: none :: none :: none :: none :: none :: none :: none :: none :: none :: none :: none :: none :: none :: none :: none :: none :: none :: none :: none :: none :: none :: none :: none :: none :: none :: none :: none :: none :: none :: none :: none :: none :: none :: none :: some 0 :: some 1 :: some 2 :: some 3 :: some 4 :: some 5 :: [])
        (fun L (W : World × Option Nat) => CG 5 4 wb (RenewF n s (⟨S.gs, S.mb, S.N, S.F, S.l, q1, S.all⟩ : SR) F2 wb) L W) (fun i (W W' : World × Option Nat) => GG 5 i W W') ?mixK17renewA ?okK17renewA ?tabK17renewA ?frK17renewA ?inK17renewA ?keptK17renewA (none : Option Nat) ?startK17renewA ?eachK17renewA ?finK17renewA
      case mixK17renewA => kernel_rfl
      case okK17renewA => kernel_rfl
      case tabK17renewA => kernel_rfl
      case frK17renewA => kernel_rfl
      case inK17renewA => rfl
      case keptK17renewA => exact ⟨fun _ _ _ _ _ _ _ _ _ _ _ h => h, fun _ _ _ _ _ _ _ _ _ _ _ h => h, fun _ _ _ _ _ _ _ _ _ _ _ h => h, fun _ _ _ _ _ _ _ _ _ _ _ h => h, fun i hne hrd L W W' v hLi hC hC' hG ⟨A, mm, c, ks, e1, e2, e3, e4, h⟩ => ⟨A, mm, c, ks, e1, e2, e3, e4, fun e9 => by
            simp only [Bool.or_eq_false_iff, beq_eq_false_iff_ne] at e9
            exact (h e9.2).up (hG (fun e => e9.1 e.symm)).1⟩, fun i hne hrd L W W' v hLi hC hC' hG h h9 => by
            simp only [Bool.or_eq_true, beq_iff_eq] at h9
            obtain ⟨code, e1, e2⟩ := h (h9.resolve_left (fun e => hne e.symm))
            exact ⟨code, (hG (fun e => hne e)).2.trans e1, e2⟩, fun i hne hrd L W W' v hLi hC hC' hG h => by
            have hn9 : L 5 = true := by
              obtain ⟨c, e1, e2⟩ := h
              exact hC.got (by rw [e1]; simp)
            obtain ⟨code, e1, e2⟩ := h
            exact ⟨code, (hG (fun e => by subst e; rw [hLi] at hn9; cases hn9)).2.trans e1, e2⟩, trivial⟩
      case startK17renewA => exact CG.start (Below.refl _ _).drew rfl
      case eachK17renewA =>
        refine ⟨?_, ?_, ?_, ?_, ?_, ?_, ?_, trivial⟩
        -- 0: slot 53 := move t0
        · intro w γ L f hC hLi hLd hLn hF
          obtain ⟨d0, _⟩ := hF
          have d0 : f 0 = .pointer (some ⟨S.gs, 0, none⟩) := d0
          refine Step2.live rfl ?_
          refine relUpon_ghost γ ?_
          exact relUpon_value (v := f 0) rfl (hC.go (i := 0) (hLn 5 (by simp)) (by decide) (Below.refl _ _)) (fun _ => ⟨Below.refl _ _, rfl⟩) d0
        -- 1: slot 54 := nilCheck t53
        · intro w γ L f hC hLi hLd hLn hF
          obtain ⟨d53, _⟩ := hF
          have d53 : f 53 = .pointer (some ⟨S.gs, 0, none⟩) := d53
          refine Step2.live rfl ?_
          refine relUpon_ghost γ ?_
          have ev : ∀ t, evalOf f (.tmp t) = f t := fun _ => rfl
          have ec : ∀ c, evalOf f (.const c) = c := fun _ => rfl
          have ef : ∀ g, evalOf f (.func g) = .func (.func g) #[] #[] := fun _ => rfl
          refine relUpon_value ?_ (hC.go (i := 1) (hLn 5 (by simp)) (by decide) (Below.refl _ _)) (fun _ => ⟨Below.refl _ _, rfl⟩) rfl
          go_simp
        -- 2: slot 55 := fieldAddr 58 t54 0
        · intro w γ L f hC hLi hLd hLn hF
          obtain ⟨d54, _⟩ := hF
          have d54 : f 54 = .pointer (some ⟨S.gs, 0, none⟩) := d54
          refine Step2.live rfl ?_
          refine relUpon_ghost γ ?_
          have ev : ∀ t, evalOf f (.tmp t) = f t := fun _ => rfl
          have ec : ∀ c, evalOf f (.const c) = c := fun _ => rfl
          have ef : ∀ g, evalOf f (.func g) = .func (.func g) #[] #[] := fun _ => rfl
          refine relUpon_value ?_ (hC.go (i := 2) (hLn 5 (by simp)) (by decide) (Below.refl _ _)) (fun _ => ⟨Below.refl _ _, rfl⟩) rfl
          go_simp
        -- 3: slot 56 := move t9
        · intro w γ L f hC hLi hLd hLn hF
          obtain ⟨d9, _⟩ := hF
          have d9 : f 9 = .map (some mc) := d9
          refine Step2.live rfl ?_
          refine relUpon_ghost γ ?_
          exact relUpon_value (v := f 9) rfl (hC.go (i := 3) (hLn 5 (by simp)) (by decide) (Below.refl _ _)) (fun _ => ⟨Below.refl _ _, rfl⟩) d9
        -- 4: slot 57 := call { value (Operand.func 34), args := #[t56], argTypes := #[56] }
        · intro w γ L f hC hLi hLd hLn hF
          obtain ⟨d56, _⟩ := hF
          have d56 : f 56 = .map (some mc) := d56
          refine Step2.live rfl ?_
          have hw := hC.bel (hLn 5 (by simp))
          refine relUpon_ghost γ ?_
          have ev : ∀ t, evalOf f (.tmp t) = f t := fun _ => rfl
          have ec : ∀ c, evalOf f (.const c) = c := fun _ => rfl
          have ef : ∀ g, evalOf f (.func g) = .func (.func g) #[] #[] := fun _ => rfl
          refine relUpon_call (f := 34) (args := #[.map (some mc)]) (w := w) (by go_simp) (snapshot_any w mc N2 F2 (hmx.out.loc (hw.block _ hmx.out.lt)) hN2.out hok2.out) ?_
          rintro e w1 ⟨v, ps, ks, he, hks, hkl, hR, hps, hB⟩
          obtain ⟨A, c, e2, hsl, _⟩ := hR.slices
          rw [hps] at hsl
          refine ⟨v, he, hC.go (i := 4) (hLn 5 (by simp)) (by decide) hB, fun _ => ⟨hB, rfl⟩, A, ps.length, c, ks, e2, hks, ?_, ?_, fun _ => hsl⟩
          · rw [← hps, List.length_map]
          · have := congrArg List.length hps
            simp only [snapF, List.length_map] at this
            have := hN2.out
            omega
        -- 5: slot 58 := call { value (Operand.func 33), args := #[t55, t57], argTypes := #[55, 72] }
        · intro w γ L f hC hLi hLd hLn hF
          obtain ⟨d55, d57, _⟩ := hF
          have d55 : f 55 = .pointer (some ⟨S.gs, 0, none⟩) := d55
          refine Step2.live rfl ?_
          have hw := hC.bel hLi
          obtain ⟨A, mm, c, ks, e57, hks, hmm, hml, hT⟩ := d57
          have hsl := hT hLi
          have ev : ∀ t, evalOf f (.tmp t) = f t := fun _ => rfl
          have ec : ∀ c, evalOf f (.const c) = c := fun _ => rfl
          have ef : ∀ g, evalOf f (.func g) = .func (.func g) #[] #[] := fun _ => rfl
          refine relUpon_callG (f := 33) (args := #[.pointer (some ⟨S.gs, 0, none⟩), .slice A mm c]) (w := w) (by go_simp) (renew_any (S := (⟨S.gs, S.mb, S.N, S.F, S.l, q1, S.all⟩ : SR)) hn1 hs (hL.out.below hw) hser.out A mm c (snapF F2 ks) hmm hml hsl) ?_
          rintro e w1 ⟨l', q', code, w2, he, hst, hput, hlive, hw2⟩
          exact ⟨_, he, some code, CG.last (hLd 4 (by decide)) (RenewF.mk hL.out hw hks hst hput hlive hw2), fun h => absurd rfl h, fun _ => ⟨code, rfl, rfl⟩⟩
        -- 6: slot 8 := assign t58
        · intro w γ L f hC hLi hLd hLn hF
          obtain ⟨d58, _⟩ := hF
          refine Step2.live rfl ?_
          refine relUpon_ghost γ ?_
          obtain ⟨code, e1, e2⟩ := d58 (hLd 5 (by decide))
          exact relUpon_value (v := f 58) rfl (CG.past hC (hLd 5 (by decide))) (fun _ => ⟨Below.refl _ _, rfl⟩) ⟨code, e1, e2⟩
      intro x w' γ hC hV

      obtain ⟨code, hg, e2⟩ := hV 6 _ rfl rfl
      obtain ⟨_, c', hg', hR⟩ := hC.2 rfl
      obtain rfl : code = c' := Option.some.inj (hg.symm.trans hg')
      clear hV hC hg hg'
      simp only [framed]
      rw [e2]
      clear e2
      obtain ⟨ks, l2, q2, w5, hks, hst, hput, hlive, hw'⟩ := hR
      have ht := notLong_snap hks hF2.out
      have hf := hfit.out ks hks
      have hrec := Lib.hid (RecsF.snap hks hF2.out)
      have hgl := hL.out.fr.hold.lt
      have hh2 : Holds w5 S.gs 58 (stV S.l.g false S.mb) := (hst.touch hgl hL.out.a1).trans hL.out.fr.hold
      have hm2 : Hid (SMapE w5 S.mb S.N S.F) := Lib.hid (SMap.loc hL.out.fr.map (hst.touch (SMap.lt hL.out.fr.map) hL.out.a2))
      have hrow5 : Hid (Row w5 w5.heap.size A (ps.flatMap PairR.cells)) := Lib.hid ((hst.pairs hL.out.log.log hL.out.log.disk hrow4.out).more hst.wrt.size)
      rcases hput.codes ht with e | e | ⟨_, e⟩
      · subst e
        rw [noted, if_neg (by omega)] at hw'
        subst hw'
        have c2 : w'.cell? ⟨S.gs, 2, none⟩ = some (.map (some S.mb)) := hh2.cell 2
        replace hst := Lib.hid hst
        replace hput := Lib.hid hput
        replace hlive := Lib.hid hlive
        clear ht hgl hh2 hks hf hmx hrow4
        go_wp2_with fail
        refine (change_any w' S.mb S.N S.F hm2.out A k c ps hm.out hrow5.out hpok.out hN.out).mono ?_
        rintro e w7 ⟨rfl, hm7, hW7⟩
        have hfin : Hid (ApplyE n s S F2 N2 w (.returned (.int .i64 0)) w7) := Lib.hid (by
          rw [← hFe.out, ← hN2e.out] at hm7
          obtain ⟨h1, h2⟩ := live_next hL.out hst.out hput.out hrec.out hm7 hW7
          exact .inl ⟨_, rfl, hU3.out.trans h1, rfl, rfl, hst.out.g.trans hqg.out, rfl, rfl, h2, fun hc => (hlive.out (hcut1.out hc)).2⟩)
        clear hm7 hW7 hm2 hrow5 c2
        go_wp2_with fail
        go_ret
        rw [hN2e.out] at hfin
        exact hfin.out
      · subst e
        rw [noted, if_pos rfl] at hw'
        subst hw'
        have hfin : Hid (ApplyE n s S F2 N2 w (.returned (.int .i64 32)) (w5.setCell ⟨S.gs, 1, none⟩ (.bool true))) := Lib.hid (by
          refine .inr ⟨_, ?_, rfl, hU3.out.trans (dead_next hL.out hst hput hrec.out), rfl, rfl, hst.g.trans hqg.out, rfl, rfl, rfl⟩
          cases hc : S.q.cut with
          | true => rfl
          | false => exact absurd rfl (hlive (hcut1.out hc)).1)
        clear hst hput hlive ht hgl hh2 hm2 hrow5 hks hf hmx hrow4
        generalize w5.setCell ⟨S.gs, 1, none⟩ (.bool true) = w6 at *
        go_wp2_with fail
        go_ret
        rw [hN2e.out] at hfin
        exact hfin.out
      · exfalso
        change half n * s - 0 < _ at e
        omega
end Go.Proofs.YtelglbblgkhcmaaGreat
