/-
  The walk of CodeWrites.
-/
import Derived.Test.YtimhghmnnibajaaCodeWb
namespace Go.Proofs.Ytimhghmnnibajaa
open Go.RowKit Go.ChangeShapes Go.WideShapes Go.Deep

/-- A writer and a row of bytes, both of the call's own. -/
structure WW (W w : World) (g : Nat) (u : Value) (L : List UInt8) (vw : Value) (L2 : List UInt8) : Prop where
  b : Below W.heap.size W w
  x : Wrt w W.heap.size g 30 u L
  o : w.ownsRow W.heap.size 5 1 vw L2.length (L2.map byteV)
  ne : u.ownBlock = none ∨ u.ownBlock ≠ vw.ownBlock
  gne : vw.ownBlock ≠ some g
section
variable {W w w' : World} {g : Nat} {u vw : Value} {L L2 l : List UInt8} {e : Ending}
theorem WW.below (h : WW W w g u L vw L2) (hb : Below w.heap.size w w') : WW W w' g u L vw L2 := ⟨h.b.trans (hb.mono h.b.size), h.x.below hb, own_below h.o hb, h.ne, h.gne⟩
theorem WW.put (h : WW W w g u L vw L2) (r : Refd w W.heap.size vw.ownBlock l e w') : ∃ v', e = .returned v' ∧ WW W w' g u L v' l := by
  have hb := r.below (Sr.own h.o) h.b.size
  obtain ⟨v', he, ho, hM, hF⟩ := r
  refine ⟨v', he, h.b.trans hb, ⟨hM.holds h.x.cell (by simpa using fun e => h.gne e.symm), hM.own h.x.own ?_, h.x.low, h.x.kind⟩, ho, ?_, ?_⟩
  · rcases h.ne with e | e
    · exact .inl e
    · exact .inr (by simpa using e)
  · rcases hF with hF | ⟨k, hF, hk⟩
    · rw [hF]
      exact h.ne
    · exact .inr (by rw [hF]; exact fun e => own_lt h.x.own hk e.symm)
  · rcases hF with hF | ⟨k, hF, hk⟩
    · rw [hF]
      exact h.gne
    · rw [hF]
      intro e
      injection e with e
      have := h.x.cell.lt
      omega
theorem WW.wrote (h : WW W w g u L vw L2) (hw : Wrote w W.heap.size g 30 u l e w') : e = .returned (.tuple #[]) ∧ ∃ u', WW W w' g u' l vw L2 := by
  have hb := hw.below h.x h.b.size
  obtain ⟨he, u', h1, hM, hF⟩ := hw
  refine ⟨he, u', h.b.trans hb, h1, hM.own h.o ?_, ?_, h.gne⟩
  · by_cases hn : vw.ownBlock = none
    · exact .inl hn
    · refine .inr ?_
      simp only [List.mem_cons, List.mem_nil_iff, or_false, not_or]
      refine ⟨h.gne, fun e => ?_⟩
      rcases h.ne with e2 | e2
      · exact hn (e.trans e2)
      · exact e2 e.symm
  · by_cases hn : u'.ownBlock = none
    · exact .inl hn
    · refine .inr fun e => ?_
      obtain ⟨k, hk⟩ := Option.ne_none_iff_exists'.1 hn
      have hlt : k < w.heap.size := Nat.lt_of_not_le fun hle => own_lt h.o hle (hk.symm.trans e)
      have e3 := hF.old hlt hk.symm
      rcases h.ne with e2 | e2
      · rw [e2] at e3
        cases e3
      · exact e2 (e3.symm.trans (hk.symm.trans e))
end
theorem PtAt.below {w w' : World} {B b off k : Nat} {p : Pt} {A1 A2 : Option Addr} {c1 c2 : Nat} (h : PtAt w B b off k p A1 c1 A2 c2) (hb : Below B w w') : PtAt w' B b off k p A1 c1 A2 c2 := by
  have hc : ∀ i v, w.cell? ⟨b, i, none⟩ = some v → w'.cell? ⟨b, i, none⟩ = some v := fun i v e => (hb.cell (p := ⟨b, i, none⟩) h.lt).trans e
  exact ⟨h.lt, hc _ _ h.what, hc _ _ h.n, hc _ _ h.t, hc _ _ h.s0, hc _ _ h.s1, hc _ _ h.s2, hc _ _ h.s3, hc _ _ h.s4, hc _ _ h.s5, h.r1.below hb, h.r2.below hb⟩
theorem Parts.up {w w' : World} {A : Option Addr} {ps : List Pt} (h : Parts w w.heap.size A ps) (hb : Below w.heap.size w w') : Parts w' w'.heap.size A ps := by
  obtain ⟨css, h1, h2, h3, h4⟩ := h.below hb
  refine ⟨css, h1, h2, h3.more hb.size, fun k p hk => ?_⟩
  obtain ⟨cs, h5, ss, h6, A1, c1, A2, c2, h7, h8, h9, h10⟩ := h4 k p hk
  exact ⟨cs, h5, ss, h6, A1, c1, A2, c2, h7, h8.more hb.size, h9.more hb.size, h10⟩
theorem Row.off_own {w w' : World} {B : Nat} {e : TypeId} {v : Value} {n : Nat} {xs vs : List Value} {A : Option Addr} (h : Row w B A vs) (ho : w'.ownsRow B e 1 v n xs) (hn : vs ≠ []) : v.ownBlock = none ∨ v.ownBlock ≠ blk A := by
  obtain ⟨b, off, rfl, hb, _⟩ := h hn
  refine .inr fun e => ?_
  have := own_low ho (k := b) e.symm
  omega
theorem text_len (w : World) (B g : Nat) (t : TypeId) (v : Value) (l : List UInt8) (A : Option Addr) (c M n : Nat) (zs : List ByteArray) (hw : Wrt w B g t v l) (hB : B ≤ w.heap.size) (hn : zs.length = n)
    (hz : ∀ z ∈ zs, z.size ≤ M) (hM2 : M ≤ 10000000000) (hA : Strs w w.heap.size A zs) (hoff : zs ≠ [] → blk A ∉ [some g, v.ownBlock]) (hlen : l.length + (10 + M) * zs.length ≤ 99999999990) :
    Calls Try.prog 22 #[.pointer (some ⟨g, 0, none⟩), .slice A n c] w (Wrote w B g t v (l ++ zs.flatMap txtE)) := by
  subst hn
  exact text_any w B g t v l A c M zs hw hB hz hM2 hA hoff hlen

theorem wrap_64 (n : Int) : IntKind.i64.wrap n = wrap64 n := IntWalk.i64_left n
theorem Pt.ok_of_light {p : Pt} (h : p.ok maxLen) (hl : p.light) : p.ok 1000 :=
  ⟨h.1, h.2.1, Nat.le_trans hl.1 (by omega), h.2.2.2.1, h.2.2.2.2.1, fun m hm => ⟨Nat.le_trans (hl.2.2.2 m hm) (by omega), (h.2.2.2.2.2 m hm).2⟩⟩
theorem smE_len {s : Sm} (h : s.ok 1000) (h1 : s.al.length ≤ 1000) (h2 : s.md.length ≤ 1000) : (smE s).length ≤ 1100000 := by
  have a1 := alsE_len rfl h1 h.1
  have a2 := ivE_len h.2.1
  have a3 := numE_len10 s.md.length (by omega)
  have a4 := flat_len_all' nmE 1031 s.md (fun m hm => nmE_len (h.2.2 m hm) (by omega))
  unfold smE
  simp only [List.length_append]
  have a5 : (boolE s.ends).length = 1 := rfl
  omega
theorem putE_len {p : Pt} (h : p.ok 1000) (hl : p.light) : (putE p).length ≤ 1200000 := by
  have a1 := smE_len h.2.2.2 (Nat.le_trans hl.2.1 (by omega)) (Nat.le_trans hl.2.2.1 (by omega))
  have a2 := numE_len10 p.n h.2.1
  have a3 := intE_len (wrap_ok p.n)
  have a4 := txtE_len 1000 p.t h.2.2.1 (by omega)
  unfold putE
  split
  · omega
  · split
    · omega
    · split
      · omega
      · split
        · simp [boolE]
        · omega

set_option maxRecDepth 100000 in
set_option maxHeartbeats 16000000 in
theorem writes_any (W : World) (A : Option Addr) (c : Nat) (ps : List Pt) (hA : Parts W W.heap.size A ps) (hm : ps.length ≤ maxLen) (hs : ∀ p ∈ ps, p.ok maxLen) (hsl : ∀ p ∈ ps, p.s.al.length ≤ maxLen ∧ p.s.md.length ≤ maxLen) :
    Calls Try.prog 6 #[.slice A ps.length c] W fun e w' => e = .returned (.bool true) ∧ Below W.heap.size W w' := by
  have hA := Lib.hid hA
  rename_i hA'
  have hs := Lib.hid hs
  rename_i hs'
  have hsl := Lib.hid hsl
  rename_i hsl'
  clear hA' hs' hsl'
  go_enter Try.func6, Try.ntmps6
  go_wp2_with fail
  refine (known_any _).mono ?_
  rintro e w1 ⟨rfl, hb1⟩
  have hb1 := Lib.hid hb1
  rename_i hb1'
  clear hb1'
  go_wp2_with fail
  refine (light_any w1 A c ps (hA.out.up hb1.out) hm hs.out hsl.out).mono ?_
  rintro e w2 ⟨he, hb2⟩
  have hb2 := Lib.hid (hb1.out.trans (hb2.mono hb1.out.size))
  rename_i hb2'
  clear hb2' hb1
  rcases he with ⟨rfl, hlen, hl⟩ | rfl
  case inr =>
    go_wp2_with fail
    go_ret
    exact ⟨rfl, hb2.out⟩
  have hl := Lib.hid hl
  rename_i hl'
  clear hl' hm
  have hok : Hid (∀ p ∈ ps, p.ok 1000) := Lib.hid fun p hp => Pt.ok_of_light (hs.out p hp) (hl.out p hp)
  go_wp2_with fail
  refine (newWriter_any _).mono ?_
  rintro e w3 ⟨rfl, rfl⟩
  have hp : Hid (WW W (w2.alloc (.cells #[.slice none 0 0] 30)) w2.heap.size (.slice none 0 0) [] (.slice none 0 0) []) := Lib.hid ⟨hb2.out.alloc hb2.out.size _, ⟨Holds.new _ _ _, World.ownsRow_nil _ _ _ _, hb2.out.size, by decide⟩, World.ownsRow_nil _ _ _ _, .inl rfl, by simp [Value.ownBlock]⟩
  obtain ⟨g, hg⟩ : ∃ g, w2.heap.size = g := ⟨_, rfl⟩
  rw [hg] at hp ⊢
  generalize w2.alloc (.cells #[.slice none 0 0] 30) = w3 at hp ⊢
  clear hg hb2
  go_wp2_with fail
  go_loopw [4, 5] (fun vw i wr => ∃ k : Nat, k ≤ ps.length ∧ i = .int .i64 k ∧ ∃ u, WW W wr g u ((ps.take k).flatMap putE) vw ((ps.take k).flatMap putE)) (fun _ i _ => ps.length - (intOf i).toNat)
  case atStart => exact ⟨0, by omega, rfl, _, by simpa using hp.out⟩
  clear hp
  obtain ⟨k, hk, rfl, u, hp⟩ := hrel
  have hcl : ((ps.take k).flatMap putE).length ≤ 20000000 := by
    have := flat_len' putE 1200000 ps (fun p hp => putE_len (hok.out p hp) (hl.out p hp)) k
    omega
  by_cases hlt : k < ps.length
  case pos =>
    have hpo := hok.out _ (List.getElem_mem hlt)
    have hpl := hl.out _ (List.getElem_mem hlt)
    obtain ⟨b, off, A1, c1, A2, c2, rfl, hpt0⟩ := (hA.out.below hp.b).at_ hlt
    have hft := Lib.hid (flat_take putE ps k hlt)
    generalize ps[k] = p at *
    have hpo := Lib.hid hpo
    rename_i hpo'
    have hpl := Lib.hid hpl
    rename_i hpl'
    have hpt0 := Lib.hid hpt0
    rename_i hpt0'
    have hp := Lib.hid hp
    rename_i hp'
    have hcl := Lib.hid hcl
    rename_i hcl'
    clear hpo' hpl' hpt0' hp' hcl'
    have q0 := hpt0.out.what
    have q1 := hpt0.out.n
    have q2 := hpt0.out.t
    have q3 := hpt0.out.s0
    have q4 := hpt0.out.s1
    have q5 := hpt0.out.s2
    have q6 := hpt0.out.s3
    have q7 := hpt0.out.s4
    have q8 := hpt0.out.s5
    generalize (ps.take k).flatMap putE = cur at *
    go_wp2_with fail
    refine (put_any wr W.heap.size u4 cur u4.ownBlock p A1 A2 p.s.al.length c1 p.s.md.length c2 (Sr.own hp.out.o) hp.out.b.size hpo.out rfl rfl (Nat.le_trans hpl.out.2.1 (by omega)) (Nat.le_trans hpl.out.2.2.1 (by omega)) (hpt0.out.r1.more hp.out.b.size) (fun hne => hpt0.out.r1.off_own hp.out.o hne) (hpt0.out.r2.more hp.out.b.size) (fun hne => hpt0.out.r2.off_own hp.out.o hne) (by have := hcl.out; omega)).mono ?_
    intro e wq hr
    clear q0 q1 q2 q3 q4 q5 q6 q7 q8
    have hbq := hr.below (Sr.own hp.out.o) hp.out.b.size
    have hpt := Lib.hid (hpt0.out.below hbq)
    obtain ⟨vn, rfl, hp2⟩ := hp.out.put hr
    clear hr hp hbq hpt0
    have hp := Lib.hid hp2
    clear hp2
    have q0 := hpt.out.what
    have hblt := Nat.lt_of_lt_of_le hpt.out.lt hp.out.b.size
    have fn : Hid ((⟨b, off + k * 9 + 1, none⟩ : Addr).block < wq.heap.size ∧ wq.cell? ⟨b, off + k * 9 + 1, none⟩ = some (.int .u64 (p.n : Nat))) := Lib.hid ⟨hblt, hpt.out.n⟩
    have ft : Hid ((⟨b, off + k * 9 + 2, none⟩ : Addr).block < wq.heap.size ∧ wq.cell? ⟨b, off + k * 9 + 2, none⟩ = some (.string p.t)) := Lib.hid ⟨hblt, hpt.out.t⟩
    have hpn := Lib.hid hpo.out.2.1
    have hptz := Lib.hid hpo.out.2.2.1
    have hwhat := hpo.out.1
    have hn64 := hpo.out.2.1
    have hnx : Hid (∀ w', (∃ u', WW W w' g u' (cur ++ putE p) vn (cur ++ putE p)) → ∃ u', WW W w' g u' ((ps.take (k + 1)).flatMap putE) vn ((ps.take (k + 1)).flatMap putE)) := Lib.hid fun w' h => by
      rw [hft.out]
      exact h
    rcases (show p.what % 5 = 0 ∨ p.what % 5 = 1 ∨ p.what % 5 = 2 ∨ p.what % 5 = 3 ∨ p.what % 5 = 4 by omega) with q | q | q | q | q
    · have hE := Lib.hid (show putE p = numE p.n by simp [putE, q])
      have hrem : Int.tmod (p.what : Int) 5 = 0 := by rw [IntWalk.rem_in _ _ (by omega)]; omega
      go_wp2_with fail
      clear q0 hrem
      -- THE REGION THAT DRAWS ITS ORDER, BY ONE LEXICAL WALK OVER GENERIC VALUES (written by relgen.py)
      refine wp_region_tabL ((fun _ _ v => v = .pointer (some ⟨g, 0, none⟩)) ::
        (fun _ _ v => v = .pointer (some ⟨g, 0, none⟩)) ::
        (fun _ _ v => v = .pointer (some ⟨g, 0, none⟩)) ::
        (fun _ _ v => v = .slice (some ⟨b, off, none⟩) ps.length c) ::
        (fun _ _ v => v = .int .i64 k) ::
        (fun _ _ v => v = .pointer (some ⟨b, off + k * 9, none⟩)) ::
        (fun _ _ v => v = .pointer (some ⟨b, off + k * 9 + 1, none⟩)) ::
        (fun _ _ v => v = .int .u64 (p.n : Nat)) ::
        (fun L w v => Till 9 (fun w v => NewCells wq.heap.size 37 #[.int .u64 (p.n : Nat)] 1 w v) L w v) ::
        (fun _ _ _ => True) :: [])
        (⟨[(3, none)], 0, [9]⟩ :: ⟨[(43, some 0)], 0, [9]⟩ :: ⟨[(44, some 1)], 0, [9]⟩ :: ⟨[(0, none)], 0, [9]⟩ :: ⟨[(5, none)], 0, [9]⟩ :: ⟨[(46, some 3), (47, some 4)], 0, [9]⟩ :: ⟨[(48, some 5)], 0, [9]⟩ :: ⟨[(49, some 6)], 0, [9]⟩ :: ⟨[(50, some 7)], 0, [9]⟩ :: ⟨[(45, some 2), (51, some 8)], 0, []⟩ :: [])
        (none :: none :: none :: none :: none :: none :: none :: none :: none :: none :: none :: none :: none :: none :: none :: none :: none :: none :: none :: none :: none :: none :: none :: none :: none :: none :: none :: none :: none :: none :: none :: none :: none :: none :: none :: none :: none :: none :: none :: none :: none :: none :: none :: some 0 :: some 1 :: some 2 :: some 3 :: some 4 :: some 5 :: some 6 :: some 7 :: some 8 :: some 9 :: [])
        (fun L w' => PutAt wq W.heap.size g 30 u (cur ++ numE p.n) (L 9) w') (fun i w w' => i ≠ 9 → Below w.heap.size w w') ?mixK14 ?okK14 ?tabK14 ?frK14 ?inK14 ?keptK14 ?startK14 ?eachK14 ?finK14
      case mixK14 => kernel_rfl
      case okK14 => kernel_rfl
      case tabK14 => kernel_rfl
      case frK14 => kernel_rfl
      case inK14 => rfl
      case keptK14 => exact ⟨fun _ _ _ _ _ _ _ _ _ _ _ h => h, fun _ _ _ _ _ _ _ _ _ _ _ h => h, fun _ _ _ _ _ _ _ _ _ _ _ h => h, fun _ _ _ _ _ _ _ _ _ _ _ h => h, fun _ _ _ _ _ _ _ _ _ _ _ h => h, fun _ _ _ _ _ _ _ _ _ _ _ h => h, fun _ _ _ _ _ _ _ _ _ _ _ h => h, fun _ _ _ _ _ _ _ _ _ _ _ h => h, fun _ _ _ _ _ _ _ _ _ _ hG h => Till.keep h fun hne h => h.keep (hG hne), fun _ _ _ _ _ _ _ _ _ _ _ h => h, trivial⟩
      case startK14 => exact ⟨fun _ => (Below.refl _ _).drew, fun h => by simp at h⟩
      case eachK14 =>
        refine ⟨?_, ?_, ?_, ?_, ?_, ?_, ?_, ?_, ?_, ?_, trivial⟩
        -- 0: slot 43 := move t3
        · intro w L f hC hLi hLd hLn hF
          obtain ⟨d3, _⟩ := hF
          have d3 : f 3 = .pointer (some ⟨g, 0, none⟩) := d3
          refine Step2.live rfl ?_
          exact relUpon_value (v := f 3) rfl (hC) (fun _ => Below.refl _ _) d3
        -- 1: slot 44 := nilCheck t43
        · intro w L f hC hLi hLd hLn hF
          obtain ⟨d43, _⟩ := hF
          have d43 : f 43 = .pointer (some ⟨g, 0, none⟩) := d43
          refine Step2.live rfl ?_
          have ev : ∀ t, evalOf f (.tmp t) = f t := fun _ => rfl
          have ec : ∀ c, evalOf f (.const c) = c := fun _ => rfl
          have ef : ∀ g, evalOf f (.func g) = .func (.func g) #[] #[] := fun _ => rfl
          refine relUpon_value ?_ hC (fun _ => Below.refl _ _) rfl
          go_simp
        -- 2: slot 45 := fieldAddr 30 t44 0
        · intro w L f hC hLi hLd hLn hF
          obtain ⟨d44, _⟩ := hF
          have d44 : f 44 = .pointer (some ⟨g, 0, none⟩) := d44
          refine Step2.live rfl ?_
          have ev : ∀ t, evalOf f (.tmp t) = f t := fun _ => rfl
          have ec : ∀ c, evalOf f (.const c) = c := fun _ => rfl
          have ef : ∀ g, evalOf f (.func g) = .func (.func g) #[] #[] := fun _ => rfl
          refine relUpon_value ?_ hC (fun _ => Below.refl _ _) rfl
          go_simp
        -- 3: slot 46 := move t0
        · intro w L f hC hLi hLd hLn hF
          obtain ⟨d0, _⟩ := hF
          have d0 : f 0 = .slice (some ⟨b, off, none⟩) ps.length c := d0
          refine Step2.live rfl ?_
          exact relUpon_value (v := f 0) rfl (hC) (fun _ => Below.refl _ _) d0
        -- 4: slot 47 := move t5
        · intro w L f hC hLi hLd hLn hF
          obtain ⟨d5, _⟩ := hF
          have d5 : f 5 = .int .i64 k := d5
          refine Step2.live rfl ?_
          exact relUpon_value (v := f 5) rfl (hC) (fun _ => Below.refl _ _) d5
        -- 5: slot 48 := indexAddr 53 t46 t47
        · intro w L f hC hLi hLd hLn hF
          obtain ⟨d46, d47, _⟩ := hF
          have d46 : f 46 = .slice (some ⟨b, off, none⟩) ps.length c := d46
          have d47 : f 47 = .int .i64 k := d47
          refine Step2.live rfl ?_
          have ev : ∀ t, evalOf f (.tmp t) = f t := fun _ => rfl
          have ec : ∀ c, evalOf f (.const c) = c := fun _ => rfl
          have ef : ∀ g, evalOf f (.func g) = .func (.func g) #[] #[] := fun _ => rfl
          refine relUpon_value ?_ hC (fun _ => Below.refl _ _) rfl
          go_simp
        -- 6: slot 49 := fieldAddr 63 t48 1
        · intro w L f hC hLi hLd hLn hF
          obtain ⟨d48, _⟩ := hF
          have d48 : f 48 = .pointer (some ⟨b, off + k * 9, none⟩) := d48
          refine Step2.live rfl ?_
          have ev : ∀ t, evalOf f (.tmp t) = f t := fun _ => rfl
          have ec : ∀ c, evalOf f (.const c) = c := fun _ => rfl
          have ef : ∀ g, evalOf f (.func g) = .func (.func g) #[] #[] := fun _ => rfl
          refine relUpon_value ?_ hC (fun _ => Below.refl _ _) rfl
          go_simp
        -- 7: slot 50 := load 37 t49
        · intro w L f hC hLi hLd hLn hF
          obtain ⟨d49, _⟩ := hF
          have d49 : f 49 = .pointer (some ⟨b, off + k * 9 + 1, none⟩) := d49
          refine Step2.live rfl ?_
          have hcell0 := ((hC.m (hLn 9 (by simp))).cell fn.out.1).trans fn.out.2
          have ev : ∀ t, evalOf f (.tmp t) = f t := fun _ => rfl
          have ec : ∀ c, evalOf f (.const c) = c := fun _ => rfl
          have ef : ∀ g, evalOf f (.func g) = .func (.func g) #[] #[] := fun _ => rfl
          refine relUpon_value ?_ hC (fun _ => Below.refl _ _) rfl
          go_simp
        -- 8: slot 51 := buildSlice 47 1 #[(0, t50)]
        · intro w L f hC hLi hLd hLn hF
          obtain ⟨d50, _⟩ := hF
          have d50 : f 50 = .int .u64 (p.n : Nat) := d50
          refine Step2.live rfl ?_
          have ev : ∀ t, evalOf f (.tmp t) = f t := fun _ => rfl
          have ec : ∀ c, evalOf f (.const c) = c := fun _ => rfl
          have ef : ∀ g, evalOf f (.func g) = .func (.func g) #[] #[] := fun _ => rfl
          refine relUpon_value (w' := w.alloc (.cells #[.int .u64 (p.n : Nat)] 37)) (v := .slice (some ⟨w.heap.size, 0, none⟩) 1 1) (by go_simp) (hC.alloc (hLn 9 (by simp)) _) (fun _ => below_new _ _) (fun _ => ⟨_, rfl, (hC.m (hLn 9 (by simp))).size, Holds.new _ _ _⟩)
        -- 9: slot 52 := call { value (Operand.func 27), args := #[t45, t51], argTypes := #[28, 47] }
        · intro w L f hC hLi hLd hLn hF
          obtain ⟨d45, d51, _⟩ := hF
          have d45 : f 45 = .pointer (some ⟨g, 0, none⟩) := d45
          refine Step2.live rfl ?_
          obtain ⟨kn, e0, hkn, hrow⟩ := d51 hLi
          have ev : ∀ t, evalOf f (.tmp t) = f t := fun _ => rfl
          have ec : ∀ c, evalOf f (.const c) = c := fun _ => rfl
          have ef : ∀ g, evalOf f (.func g) = .func (.func g) #[] #[] := fun _ => rfl
          refine relUpon_call (f := 27) (args := #[.pointer (some ⟨g, 0, none⟩), .slice (some ⟨kn, 0, none⟩) 1 1]) (w := w) (by go_simp) (num_puts (l2 := cur ++ numE p.n) (hC.m hLi) hp.out.x hp.out.b.size [p.n] 1 hrow hkn rfl rfl (by simpa using hpn.out) (by have := hcl.out; omega) (by simp)) ?_
          intro e w1 hw1
          exact ⟨_, hw1.1, ⟨fun e => by simp at e, fun _ => by have := hw1.1; subst this; exact hw1⟩, fun h => absurd rfl h, trivial⟩
      intro x w' hC hV

      have hw1 := hC.d rfl
      rw [← hE.out] at hw1
      have hr := hnx.out _ (hp.out.wrote hw1).2
      clear hV hC hw1
      simp only [framed]
      go_wp2_with fail
      go_roundw
      case rel => exact ⟨k + 1, by omega, by go_num, hr⟩
      case measure => simp [intOf]; omega
    · have hE := Lib.hid (show putE p = intE (wrap64 p.n) by simp [putE, q])
      have hrem : Int.tmod (p.what : Int) 5 = 1 := by rw [IntWalk.rem_in _ _ (by omega)]; omega
      go_wp2_with fail
      clear q0 hrem
      -- THE REGION THAT DRAWS ITS ORDER, BY ONE LEXICAL WALK OVER GENERIC VALUES (written by relgen.py)
      refine wp_region_tabL ((fun _ _ v => v = .pointer (some ⟨g, 0, none⟩)) ::
        (fun _ _ v => v = .pointer (some ⟨g, 0, none⟩)) ::
        (fun _ _ v => v = .pointer (some ⟨g, 0, none⟩)) ::
        (fun _ _ v => v = .slice (some ⟨b, off, none⟩) ps.length c) ::
        (fun _ _ v => v = .int .i64 k) ::
        (fun _ _ v => v = .pointer (some ⟨b, off + k * 9, none⟩)) ::
        (fun _ _ v => v = .pointer (some ⟨b, off + k * 9 + 1, none⟩)) ::
        (fun _ _ v => v = .int .u64 (p.n : Nat)) ::
        (fun _ _ v => v = .int .i64 (wrap64 p.n)) ::
        (fun L w v => Till 10 (fun w v => NewCells wq.heap.size 2 #[.int .i64 (wrap64 p.n)] 1 w v) L w v) ::
        (fun _ _ _ => True) :: [])
        (⟨[(3, none)], 0, [10]⟩ :: ⟨[(55, some 0)], 0, [10]⟩ :: ⟨[(56, some 1)], 0, [10]⟩ :: ⟨[(0, none)], 0, [10]⟩ :: ⟨[(5, none)], 0, [10]⟩ :: ⟨[(58, some 3), (59, some 4)], 0, [10]⟩ :: ⟨[(60, some 5)], 0, [10]⟩ :: ⟨[(61, some 6)], 0, [10]⟩ :: ⟨[(62, some 7)], 0, [10]⟩ :: ⟨[(63, some 8)], 0, [10]⟩ :: ⟨[(57, some 2), (64, some 9)], 0, []⟩ :: [])
        (none :: none :: none :: none :: none :: none :: none :: none :: none :: none :: none :: none :: none :: none :: none :: none :: none :: none :: none :: none :: none :: none :: none :: none :: none :: none :: none :: none :: none :: none :: none :: none :: none :: none :: none :: none :: none :: none :: none :: none :: none :: none :: none :: none :: none :: none :: none :: none :: none :: none :: none :: none :: none :: none :: none :: some 0 :: some 1 :: some 2 :: some 3 :: some 4 :: some 5 :: some 6 :: some 7 :: some 8 :: some 9 :: some 10 :: [])
        (fun L w' => PutAt wq W.heap.size g 30 u (cur ++ intE (wrap64 p.n)) (L 10) w') (fun i w w' => i ≠ 10 → Below w.heap.size w w') ?mixK16 ?okK16 ?tabK16 ?frK16 ?inK16 ?keptK16 ?startK16 ?eachK16 ?finK16
      case mixK16 => kernel_rfl
      case okK16 => kernel_rfl
      case tabK16 => kernel_rfl
      case frK16 => kernel_rfl
      case inK16 => rfl
      case keptK16 => exact ⟨fun _ _ _ _ _ _ _ _ _ _ _ h => h, fun _ _ _ _ _ _ _ _ _ _ _ h => h, fun _ _ _ _ _ _ _ _ _ _ _ h => h, fun _ _ _ _ _ _ _ _ _ _ _ h => h, fun _ _ _ _ _ _ _ _ _ _ _ h => h, fun _ _ _ _ _ _ _ _ _ _ _ h => h, fun _ _ _ _ _ _ _ _ _ _ _ h => h, fun _ _ _ _ _ _ _ _ _ _ _ h => h, fun _ _ _ _ _ _ _ _ _ _ _ h => h, fun _ _ _ _ _ _ _ _ _ _ hG h => Till.keep h fun hne h => h.keep (hG hne), fun _ _ _ _ _ _ _ _ _ _ _ h => h, trivial⟩
      case startK16 => exact ⟨fun _ => (Below.refl _ _).drew, fun h => by simp at h⟩
      case eachK16 =>
        refine ⟨?_, ?_, ?_, ?_, ?_, ?_, ?_, ?_, ?_, ?_, ?_, trivial⟩
        -- 0: slot 55 := move t3
        · intro w L f hC hLi hLd hLn hF
          obtain ⟨d3, _⟩ := hF
          have d3 : f 3 = .pointer (some ⟨g, 0, none⟩) := d3
          refine Step2.live rfl ?_
          exact relUpon_value (v := f 3) rfl (hC) (fun _ => Below.refl _ _) d3
        -- 1: slot 56 := nilCheck t55
        · intro w L f hC hLi hLd hLn hF
          obtain ⟨d55, _⟩ := hF
          have d55 : f 55 = .pointer (some ⟨g, 0, none⟩) := d55
          refine Step2.live rfl ?_
          have ev : ∀ t, evalOf f (.tmp t) = f t := fun _ => rfl
          have ec : ∀ c, evalOf f (.const c) = c := fun _ => rfl
          have ef : ∀ g, evalOf f (.func g) = .func (.func g) #[] #[] := fun _ => rfl
          refine relUpon_value ?_ hC (fun _ => Below.refl _ _) rfl
          go_simp
        -- 2: slot 57 := fieldAddr 30 t56 0
        · intro w L f hC hLi hLd hLn hF
          obtain ⟨d56, _⟩ := hF
          have d56 : f 56 = .pointer (some ⟨g, 0, none⟩) := d56
          refine Step2.live rfl ?_
          have ev : ∀ t, evalOf f (.tmp t) = f t := fun _ => rfl
          have ec : ∀ c, evalOf f (.const c) = c := fun _ => rfl
          have ef : ∀ g, evalOf f (.func g) = .func (.func g) #[] #[] := fun _ => rfl
          refine relUpon_value ?_ hC (fun _ => Below.refl _ _) rfl
          go_simp
        -- 3: slot 58 := move t0
        · intro w L f hC hLi hLd hLn hF
          obtain ⟨d0, _⟩ := hF
          have d0 : f 0 = .slice (some ⟨b, off, none⟩) ps.length c := d0
          refine Step2.live rfl ?_
          exact relUpon_value (v := f 0) rfl (hC) (fun _ => Below.refl _ _) d0
        -- 4: slot 59 := move t5
        · intro w L f hC hLi hLd hLn hF
          obtain ⟨d5, _⟩ := hF
          have d5 : f 5 = .int .i64 k := d5
          refine Step2.live rfl ?_
          exact relUpon_value (v := f 5) rfl (hC) (fun _ => Below.refl _ _) d5
        -- 5: slot 60 := indexAddr 53 t58 t59
        · intro w L f hC hLi hLd hLn hF
          obtain ⟨d58, d59, _⟩ := hF
          have d58 : f 58 = .slice (some ⟨b, off, none⟩) ps.length c := d58
          have d59 : f 59 = .int .i64 k := d59
          refine Step2.live rfl ?_
          have ev : ∀ t, evalOf f (.tmp t) = f t := fun _ => rfl
          have ec : ∀ c, evalOf f (.const c) = c := fun _ => rfl
          have ef : ∀ g, evalOf f (.func g) = .func (.func g) #[] #[] := fun _ => rfl
          refine relUpon_value ?_ hC (fun _ => Below.refl _ _) rfl
          go_simp
        -- 6: slot 61 := fieldAddr 63 t60 1
        · intro w L f hC hLi hLd hLn hF
          obtain ⟨d60, _⟩ := hF
          have d60 : f 60 = .pointer (some ⟨b, off + k * 9, none⟩) := d60
          refine Step2.live rfl ?_
          have ev : ∀ t, evalOf f (.tmp t) = f t := fun _ => rfl
          have ec : ∀ c, evalOf f (.const c) = c := fun _ => rfl
          have ef : ∀ g, evalOf f (.func g) = .func (.func g) #[] #[] := fun _ => rfl
          refine relUpon_value ?_ hC (fun _ => Below.refl _ _) rfl
          go_simp
        -- 7: slot 62 := load 37 t61
        · intro w L f hC hLi hLd hLn hF
          obtain ⟨d61, _⟩ := hF
          have d61 : f 61 = .pointer (some ⟨b, off + k * 9 + 1, none⟩) := d61
          refine Step2.live rfl ?_
          have hcell0 := ((hC.m (hLn 10 (by simp))).cell fn.out.1).trans fn.out.2
          have ev : ∀ t, evalOf f (.tmp t) = f t := fun _ => rfl
          have ec : ∀ c, evalOf f (.const c) = c := fun _ => rfl
          have ef : ∀ g, evalOf f (.func g) = .func (.func g) #[] #[] := fun _ => rfl
          refine relUpon_value ?_ hC (fun _ => Below.refl _ _) rfl
          go_simp
        -- 8: slot 63 := convert 37 2 t62
        · intro w L f hC hLi hLd hLn hF
          obtain ⟨d62, _⟩ := hF
          have d62 : f 62 = .int .u64 (p.n : Nat) := d62
          refine Step2.live rfl ?_
          have ev : ∀ t, evalOf f (.tmp t) = f t := fun _ => rfl
          have ec : ∀ c, evalOf f (.const c) = c := fun _ => rfl
          have ef : ∀ g, evalOf f (.func g) = .func (.func g) #[] #[] := fun _ => rfl
          refine relUpon_value ?_ hC (fun _ => Below.refl _ _) rfl
          go_simp
          exact wrap_64 _
        -- 9: slot 64 := buildSlice 48 1 #[(0, t63)]
        · intro w L f hC hLi hLd hLn hF
          obtain ⟨d63, _⟩ := hF
          have d63 : f 63 = .int .i64 (wrap64 p.n) := d63
          refine Step2.live rfl ?_
          have ev : ∀ t, evalOf f (.tmp t) = f t := fun _ => rfl
          have ec : ∀ c, evalOf f (.const c) = c := fun _ => rfl
          have ef : ∀ g, evalOf f (.func g) = .func (.func g) #[] #[] := fun _ => rfl
          refine relUpon_value (w' := w.alloc (.cells #[.int .i64 (wrap64 p.n)] 2)) (v := .slice (some ⟨w.heap.size, 0, none⟩) 1 1) (by go_simp) (hC.alloc (hLn 10 (by simp)) _) (fun _ => below_new _ _) (fun _ => ⟨_, rfl, (hC.m (hLn 10 (by simp))).size, Holds.new _ _ _⟩)
        -- 10: slot 65 := call { value (Operand.func 16), args := #[t57, t64], argTypes := #[28, 48] }
        · intro w L f hC hLi hLd hLn hF
          obtain ⟨d57, d64, _⟩ := hF
          have d57 : f 57 = .pointer (some ⟨g, 0, none⟩) := d57
          refine Step2.live rfl ?_
          obtain ⟨kn, e0, hkn, hrow⟩ := d64 hLi
          have ev : ∀ t, evalOf f (.tmp t) = f t := fun _ => rfl
          have ec : ∀ c, evalOf f (.const c) = c := fun _ => rfl
          have ef : ∀ g, evalOf f (.func g) = .func (.func g) #[] #[] := fun _ => rfl
          refine relUpon_call (f := 16) (args := #[.pointer (some ⟨g, 0, none⟩), .slice (some ⟨kn, 0, none⟩) 1 1]) (w := w) (by go_simp) (int_puts (l2 := cur ++ intE (wrap64 p.n)) (hC.m hLi) hp.out.x hp.out.b.size [wrap64 p.n] 1 hrow hkn rfl rfl (by simpa [i64ok] using wrap_ok p.n) (by have := hcl.out; omega) (by simp)) ?_
          intro e w1 hw1
          exact ⟨_, hw1.1, ⟨fun e => by simp at e, fun _ => by have := hw1.1; subst this; exact hw1⟩, fun h => absurd rfl h, trivial⟩
      intro x w' hC hV

      have hw1 := hC.d rfl
      rw [← hE.out] at hw1
      have hr := hnx.out _ (hp.out.wrote hw1).2
      clear hV hC hw1
      simp only [framed]
      go_wp2_with fail
      go_roundw
      case rel => exact ⟨k + 1, by omega, by go_num, hr⟩
      case measure => simp [intOf]; omega
    · have hE := Lib.hid (show putE p = txtE p.t by simp [putE, q])
      have hrem : Int.tmod (p.what : Int) 5 = 2 := by rw [IntWalk.rem_in _ _ (by omega)]; omega
      go_wp2_with fail
      clear q0 hrem
      -- THE REGION THAT DRAWS ITS ORDER, BY ONE LEXICAL WALK OVER GENERIC VALUES (written by relgen.py)
      refine wp_region_tabL ((fun _ _ v => v = .pointer (some ⟨g, 0, none⟩)) ::
        (fun _ _ v => v = .pointer (some ⟨g, 0, none⟩)) ::
        (fun _ _ v => v = .pointer (some ⟨g, 0, none⟩)) ::
        (fun _ _ v => v = .slice (some ⟨b, off, none⟩) ps.length c) ::
        (fun _ _ v => v = .int .i64 k) ::
        (fun _ _ v => v = .pointer (some ⟨b, off + k * 9, none⟩)) ::
        (fun _ _ v => v = .pointer (some ⟨b, off + k * 9 + 2, none⟩)) ::
        (fun _ _ v => v = .string p.t) ::
        (fun L w v => Till 9 (fun w v => NewCells wq.heap.size 9 #[.string p.t] 1 w v) L w v) ::
        (fun _ _ _ => True) :: [])
        (⟨[(3, none)], 0, [9]⟩ :: ⟨[(68, some 0)], 0, [9]⟩ :: ⟨[(69, some 1)], 0, [9]⟩ :: ⟨[(0, none)], 0, [9]⟩ :: ⟨[(5, none)], 0, [9]⟩ :: ⟨[(71, some 3), (72, some 4)], 0, [9]⟩ :: ⟨[(73, some 5)], 0, [9]⟩ :: ⟨[(74, some 6)], 0, [9]⟩ :: ⟨[(75, some 7)], 0, [9]⟩ :: ⟨[(70, some 2), (76, some 8)], 0, []⟩ :: [])
        (none :: none :: none :: none :: none :: none :: none :: none :: none :: none :: none :: none :: none :: none :: none :: none :: none :: none :: none :: none :: none :: none :: none :: none :: none :: none :: none :: none :: none :: none :: none :: none :: none :: none :: none :: none :: none :: none :: none :: none :: none :: none :: none :: none :: none :: none :: none :: none :: none :: none :: none :: none :: none :: none :: none :: none :: none :: none :: none :: none :: none :: none :: none :: none :: none :: none :: none :: none :: some 0 :: some 1 :: some 2 :: some 3 :: some 4 :: some 5 :: some 6 :: some 7 :: some 8 :: some 9 :: [])
        (fun L w' => PutAt wq W.heap.size g 30 u (cur ++ txtE p.t) (L 9) w') (fun i w w' => i ≠ 9 → Below w.heap.size w w') ?mixK18 ?okK18 ?tabK18 ?frK18 ?inK18 ?keptK18 ?startK18 ?eachK18 ?finK18
      case mixK18 => kernel_rfl
      case okK18 => kernel_rfl
      case tabK18 => kernel_rfl
      case frK18 => kernel_rfl
      case inK18 => rfl
      case keptK18 => exact ⟨fun _ _ _ _ _ _ _ _ _ _ _ h => h, fun _ _ _ _ _ _ _ _ _ _ _ h => h, fun _ _ _ _ _ _ _ _ _ _ _ h => h, fun _ _ _ _ _ _ _ _ _ _ _ h => h, fun _ _ _ _ _ _ _ _ _ _ _ h => h, fun _ _ _ _ _ _ _ _ _ _ _ h => h, fun _ _ _ _ _ _ _ _ _ _ _ h => h, fun _ _ _ _ _ _ _ _ _ _ _ h => h, fun _ _ _ _ _ _ _ _ _ _ hG h => Till.keep h fun hne h => h.keep (hG hne), fun _ _ _ _ _ _ _ _ _ _ _ h => h, trivial⟩
      case startK18 => exact ⟨fun _ => (Below.refl _ _).drew, fun h => by simp at h⟩
      case eachK18 =>
        refine ⟨?_, ?_, ?_, ?_, ?_, ?_, ?_, ?_, ?_, ?_, trivial⟩
        -- 0: slot 68 := move t3
        · intro w L f hC hLi hLd hLn hF
          obtain ⟨d3, _⟩ := hF
          have d3 : f 3 = .pointer (some ⟨g, 0, none⟩) := d3
          refine Step2.live rfl ?_
          exact relUpon_value (v := f 3) rfl (hC) (fun _ => Below.refl _ _) d3
        -- 1: slot 69 := nilCheck t68
        · intro w L f hC hLi hLd hLn hF
          obtain ⟨d68, _⟩ := hF
          have d68 : f 68 = .pointer (some ⟨g, 0, none⟩) := d68
          refine Step2.live rfl ?_
          have ev : ∀ t, evalOf f (.tmp t) = f t := fun _ => rfl
          have ec : ∀ c, evalOf f (.const c) = c := fun _ => rfl
          have ef : ∀ g, evalOf f (.func g) = .func (.func g) #[] #[] := fun _ => rfl
          refine relUpon_value ?_ hC (fun _ => Below.refl _ _) rfl
          go_simp
        -- 2: slot 70 := fieldAddr 30 t69 0
        · intro w L f hC hLi hLd hLn hF
          obtain ⟨d69, _⟩ := hF
          have d69 : f 69 = .pointer (some ⟨g, 0, none⟩) := d69
          refine Step2.live rfl ?_
          have ev : ∀ t, evalOf f (.tmp t) = f t := fun _ => rfl
          have ec : ∀ c, evalOf f (.const c) = c := fun _ => rfl
          have ef : ∀ g, evalOf f (.func g) = .func (.func g) #[] #[] := fun _ => rfl
          refine relUpon_value ?_ hC (fun _ => Below.refl _ _) rfl
          go_simp
        -- 3: slot 71 := move t0
        · intro w L f hC hLi hLd hLn hF
          obtain ⟨d0, _⟩ := hF
          have d0 : f 0 = .slice (some ⟨b, off, none⟩) ps.length c := d0
          refine Step2.live rfl ?_
          exact relUpon_value (v := f 0) rfl (hC) (fun _ => Below.refl _ _) d0
        -- 4: slot 72 := move t5
        · intro w L f hC hLi hLd hLn hF
          obtain ⟨d5, _⟩ := hF
          have d5 : f 5 = .int .i64 k := d5
          refine Step2.live rfl ?_
          exact relUpon_value (v := f 5) rfl (hC) (fun _ => Below.refl _ _) d5
        -- 5: slot 73 := indexAddr 53 t71 t72
        · intro w L f hC hLi hLd hLn hF
          obtain ⟨d71, d72, _⟩ := hF
          have d71 : f 71 = .slice (some ⟨b, off, none⟩) ps.length c := d71
          have d72 : f 72 = .int .i64 k := d72
          refine Step2.live rfl ?_
          have ev : ∀ t, evalOf f (.tmp t) = f t := fun _ => rfl
          have ec : ∀ c, evalOf f (.const c) = c := fun _ => rfl
          have ef : ∀ g, evalOf f (.func g) = .func (.func g) #[] #[] := fun _ => rfl
          refine relUpon_value ?_ hC (fun _ => Below.refl _ _) rfl
          go_simp
        -- 6: slot 74 := fieldAddr 63 t73 2
        · intro w L f hC hLi hLd hLn hF
          obtain ⟨d73, _⟩ := hF
          have d73 : f 73 = .pointer (some ⟨b, off + k * 9, none⟩) := d73
          refine Step2.live rfl ?_
          have ev : ∀ t, evalOf f (.tmp t) = f t := fun _ => rfl
          have ec : ∀ c, evalOf f (.const c) = c := fun _ => rfl
          have ef : ∀ g, evalOf f (.func g) = .func (.func g) #[] #[] := fun _ => rfl
          refine relUpon_value ?_ hC (fun _ => Below.refl _ _) rfl
          go_simp
        -- 7: slot 75 := load 9 t74
        · intro w L f hC hLi hLd hLn hF
          obtain ⟨d74, _⟩ := hF
          have d74 : f 74 = .pointer (some ⟨b, off + k * 9 + 2, none⟩) := d74
          refine Step2.live rfl ?_
          have hcell0 := ((hC.m (hLn 9 (by simp))).cell ft.out.1).trans ft.out.2
          have ev : ∀ t, evalOf f (.tmp t) = f t := fun _ => rfl
          have ec : ∀ c, evalOf f (.const c) = c := fun _ => rfl
          have ef : ∀ g, evalOf f (.func g) = .func (.func g) #[] #[] := fun _ => rfl
          refine relUpon_value ?_ hC (fun _ => Below.refl _ _) rfl
          go_simp
        -- 8: slot 76 := buildSlice 40 1 #[(0, t75)]
        · intro w L f hC hLi hLd hLn hF
          obtain ⟨d75, _⟩ := hF
          have d75 : f 75 = .string p.t := d75
          refine Step2.live rfl ?_
          have ev : ∀ t, evalOf f (.tmp t) = f t := fun _ => rfl
          have ec : ∀ c, evalOf f (.const c) = c := fun _ => rfl
          have ef : ∀ g, evalOf f (.func g) = .func (.func g) #[] #[] := fun _ => rfl
          refine relUpon_value (w' := w.alloc (.cells #[.string p.t] 9)) (v := .slice (some ⟨w.heap.size, 0, none⟩) 1 1) (by go_simp) (hC.alloc (hLn 9 (by simp)) _) (fun _ => below_new _ _) (fun _ => ⟨_, rfl, (hC.m (hLn 9 (by simp))).size, Holds.new _ _ _⟩)
        -- 9: slot 77 := call { value (Operand.func 22), args := #[t70, t76], argTypes := #[28, 40] }
        · intro w L f hC hLi hLd hLn hF
          obtain ⟨d70, d76, _⟩ := hF
          have d70 : f 70 = .pointer (some ⟨g, 0, none⟩) := d70
          refine Step2.live rfl ?_
          obtain ⟨kn, e0, hkn, hrow⟩ := d76 hLi
          have ev : ∀ t, evalOf f (.tmp t) = f t := fun _ => rfl
          have ec : ∀ c, evalOf f (.const c) = c := fun _ => rfl
          have ef : ∀ g, evalOf f (.func g) = .func (.func g) #[] #[] := fun _ => rfl
          refine relUpon_call (f := 22) (args := #[.pointer (some ⟨g, 0, none⟩), .slice (some ⟨kn, 0, none⟩) 1 1]) (w := w) (by go_simp) (text_puts (l2 := cur ++ txtE p.t) (hC.m hLi) hp.out.x hp.out.b.size [p.t] 1 1000 hrow hkn rfl rfl (by simpa using hptz.out) (by omega) (by have := hcl.out; omega) (by simp)) ?_
          intro e w1 hw1
          exact ⟨_, hw1.1, ⟨fun e => by simp at e, fun _ => by have := hw1.1; subst this; exact hw1⟩, fun h => absurd rfl h, trivial⟩
      intro x w' hC hV

      have hw1 := hC.d rfl
      rw [← hE.out] at hw1
      have hr := hnx.out _ (hp.out.wrote hw1).2
      clear hV hC hw1
      simp only [framed]
      go_wp2_with fail
      go_roundw
      case rel => exact ⟨k + 1, by omega, by go_num, hr⟩
      case measure => simp [intOf]; omega
    · have hE := Lib.hid (show putE p = boolE ((p.n : Int) % 2 == 1) by simp [putE, q])
      have hrem : Int.tmod (p.what : Int) 5 = 3 := by rw [IntWalk.rem_in _ _ (by omega)]; omega
      have hrem2 : Int.tmod (p.n : Int) 2 = (p.n : Int) % 2 := IntWalk.rem_in _ _ (by omega)
      go_wp2_with fail
      clear q0 hrem
      -- THE REGION THAT DRAWS ITS ORDER, BY ONE LEXICAL WALK OVER GENERIC VALUES (written by relgen.py)
      refine wp_region_tabL ((fun _ _ v => v = .pointer (some ⟨g, 0, none⟩)) ::
        (fun _ _ v => v = .pointer (some ⟨g, 0, none⟩)) ::
        (fun _ _ v => v = .pointer (some ⟨g, 0, none⟩)) ::
        (fun _ _ v => v = .slice (some ⟨b, off, none⟩) ps.length c) ::
        (fun _ _ v => v = .int .i64 k) ::
        (fun _ _ v => v = .pointer (some ⟨b, off + k * 9, none⟩)) ::
        (fun _ _ v => v = .pointer (some ⟨b, off + k * 9 + 1, none⟩)) ::
        (fun _ _ v => v = .int .u64 (p.n : Nat)) ::
        (fun _ _ v => v = .int .u64 ((p.n : Int) % 2)) ::
        (fun _ _ v => v = .bool ((p.n : Int) % 2 == 1)) ::
        (fun L w v => Till 11 (fun w v => NewCells wq.heap.size 4 #[.bool ((p.n : Int) % 2 == 1)] 1 w v) L w v) ::
        (fun _ _ _ => True) :: [])
        (⟨[(3, none)], 0, [11]⟩ :: ⟨[(80, some 0)], 0, [11]⟩ :: ⟨[(81, some 1)], 0, [11]⟩ :: ⟨[(0, none)], 0, [11]⟩ :: ⟨[(5, none)], 0, [11]⟩ :: ⟨[(83, some 3), (84, some 4)], 0, [11]⟩ :: ⟨[(85, some 5)], 0, [11]⟩ :: ⟨[(86, some 6)], 0, [11]⟩ :: ⟨[(87, some 7)], 0, [11]⟩ :: ⟨[(88, some 8)], 0, [11]⟩ :: ⟨[(89, some 9)], 0, [11]⟩ :: ⟨[(82, some 2), (90, some 10)], 0, []⟩ :: [])
        (none :: none :: none :: none :: none :: none :: none :: none :: none :: none :: none :: none :: none :: none :: none :: none :: none :: none :: none :: none :: none :: none :: none :: none :: none :: none :: none :: none :: none :: none :: none :: none :: none :: none :: none :: none :: none :: none :: none :: none :: none :: none :: none :: none :: none :: none :: none :: none :: none :: none :: none :: none :: none :: none :: none :: none :: none :: none :: none :: none :: none :: none :: none :: none :: none :: none :: none :: none :: none :: none :: none :: none :: none :: none :: none :: none :: none :: none :: none :: none :: some 0 :: some 1 :: some 2 :: some 3 :: some 4 :: some 5 :: some 6 :: some 7 :: some 8 :: some 9 :: some 10 :: some 11 :: [])
        (fun L w' => PutAt wq W.heap.size g 30 u (cur ++ boolE ((p.n : Int) % 2 == 1)) (L 11) w') (fun i w w' => i ≠ 11 → Below w.heap.size w w') ?mixK20 ?okK20 ?tabK20 ?frK20 ?inK20 ?keptK20 ?startK20 ?eachK20 ?finK20
      case mixK20 => kernel_rfl
      case okK20 => kernel_rfl
      case tabK20 => kernel_rfl
      case frK20 => kernel_rfl
      case inK20 => rfl
      case keptK20 => exact ⟨fun _ _ _ _ _ _ _ _ _ _ _ h => h, fun _ _ _ _ _ _ _ _ _ _ _ h => h, fun _ _ _ _ _ _ _ _ _ _ _ h => h, fun _ _ _ _ _ _ _ _ _ _ _ h => h, fun _ _ _ _ _ _ _ _ _ _ _ h => h, fun _ _ _ _ _ _ _ _ _ _ _ h => h, fun _ _ _ _ _ _ _ _ _ _ _ h => h, fun _ _ _ _ _ _ _ _ _ _ _ h => h, fun _ _ _ _ _ _ _ _ _ _ _ h => h, fun _ _ _ _ _ _ _ _ _ _ _ h => h, fun _ _ _ _ _ _ _ _ _ _ hG h => Till.keep h fun hne h => h.keep (hG hne), fun _ _ _ _ _ _ _ _ _ _ _ h => h, trivial⟩
      case startK20 => exact ⟨fun _ => (Below.refl _ _).drew, fun h => by simp at h⟩
      case eachK20 =>
        refine ⟨?_, ?_, ?_, ?_, ?_, ?_, ?_, ?_, ?_, ?_, ?_, ?_, trivial⟩
        -- 0: slot 80 := move t3
        · intro w L f hC hLi hLd hLn hF
          obtain ⟨d3, _⟩ := hF
          have d3 : f 3 = .pointer (some ⟨g, 0, none⟩) := d3
          refine Step2.live rfl ?_
          exact relUpon_value (v := f 3) rfl (hC) (fun _ => Below.refl _ _) d3
        -- 1: slot 81 := nilCheck t80
        · intro w L f hC hLi hLd hLn hF
          obtain ⟨d80, _⟩ := hF
          have d80 : f 80 = .pointer (some ⟨g, 0, none⟩) := d80
          refine Step2.live rfl ?_
          have ev : ∀ t, evalOf f (.tmp t) = f t := fun _ => rfl
          have ec : ∀ c, evalOf f (.const c) = c := fun _ => rfl
          have ef : ∀ g, evalOf f (.func g) = .func (.func g) #[] #[] := fun _ => rfl
          refine relUpon_value ?_ hC (fun _ => Below.refl _ _) rfl
          go_simp
        -- 2: slot 82 := fieldAddr 30 t81 0
        · intro w L f hC hLi hLd hLn hF
          obtain ⟨d81, _⟩ := hF
          have d81 : f 81 = .pointer (some ⟨g, 0, none⟩) := d81
          refine Step2.live rfl ?_
          have ev : ∀ t, evalOf f (.tmp t) = f t := fun _ => rfl
          have ec : ∀ c, evalOf f (.const c) = c := fun _ => rfl
          have ef : ∀ g, evalOf f (.func g) = .func (.func g) #[] #[] := fun _ => rfl
          refine relUpon_value ?_ hC (fun _ => Below.refl _ _) rfl
          go_simp
        -- 3: slot 83 := move t0
        · intro w L f hC hLi hLd hLn hF
          obtain ⟨d0, _⟩ := hF
          have d0 : f 0 = .slice (some ⟨b, off, none⟩) ps.length c := d0
          refine Step2.live rfl ?_
          exact relUpon_value (v := f 0) rfl (hC) (fun _ => Below.refl _ _) d0
        -- 4: slot 84 := move t5
        · intro w L f hC hLi hLd hLn hF
          obtain ⟨d5, _⟩ := hF
          have d5 : f 5 = .int .i64 k := d5
          refine Step2.live rfl ?_
          exact relUpon_value (v := f 5) rfl (hC) (fun _ => Below.refl _ _) d5
        -- 5: slot 85 := indexAddr 53 t83 t84
        · intro w L f hC hLi hLd hLn hF
          obtain ⟨d83, d84, _⟩ := hF
          have d83 : f 83 = .slice (some ⟨b, off, none⟩) ps.length c := d83
          have d84 : f 84 = .int .i64 k := d84
          refine Step2.live rfl ?_
          have ev : ∀ t, evalOf f (.tmp t) = f t := fun _ => rfl
          have ec : ∀ c, evalOf f (.const c) = c := fun _ => rfl
          have ef : ∀ g, evalOf f (.func g) = .func (.func g) #[] #[] := fun _ => rfl
          refine relUpon_value ?_ hC (fun _ => Below.refl _ _) rfl
          go_simp
        -- 6: slot 86 := fieldAddr 63 t85 1
        · intro w L f hC hLi hLd hLn hF
          obtain ⟨d85, _⟩ := hF
          have d85 : f 85 = .pointer (some ⟨b, off + k * 9, none⟩) := d85
          refine Step2.live rfl ?_
          have ev : ∀ t, evalOf f (.tmp t) = f t := fun _ => rfl
          have ec : ∀ c, evalOf f (.const c) = c := fun _ => rfl
          have ef : ∀ g, evalOf f (.func g) = .func (.func g) #[] #[] := fun _ => rfl
          refine relUpon_value ?_ hC (fun _ => Below.refl _ _) rfl
          go_simp
        -- 7: slot 87 := load 37 t86
        · intro w L f hC hLi hLd hLn hF
          obtain ⟨d86, _⟩ := hF
          have d86 : f 86 = .pointer (some ⟨b, off + k * 9 + 1, none⟩) := d86
          refine Step2.live rfl ?_
          have hcell0 := ((hC.m (hLn 11 (by simp))).cell fn.out.1).trans fn.out.2
          have ev : ∀ t, evalOf f (.tmp t) = f t := fun _ => rfl
          have ec : ∀ c, evalOf f (.const c) = c := fun _ => rfl
          have ef : ∀ g, evalOf f (.func g) = .func (.func g) #[] #[] := fun _ => rfl
          refine relUpon_value ?_ hC (fun _ => Below.refl _ _) rfl
          go_simp
        -- 8: slot 88 := binOp BinOp.rem 37 t87 (const (2:u64)) 37
        · intro w L f hC hLi hLd hLn hF
          obtain ⟨d87, _⟩ := hF
          have d87 : f 87 = .int .u64 (p.n : Nat) := d87
          refine Step2.live rfl ?_
          have ev : ∀ t, evalOf f (.tmp t) = f t := fun _ => rfl
          have ec : ∀ c, evalOf f (.const c) = c := fun _ => rfl
          have ef : ∀ g, evalOf f (.func g) = .func (.func g) #[] #[] := fun _ => rfl
          refine relUpon_value ?_ hC (fun _ => Below.refl _ _) rfl
          go_simp
        -- 9: slot 89 := binOp BinOp.eql 37 t88 (const (1:u64)) 37
        · intro w L f hC hLi hLd hLn hF
          obtain ⟨d88, _⟩ := hF
          have d88 : f 88 = .int .u64 ((p.n : Int) % 2) := d88
          refine Step2.live rfl ?_
          have ev : ∀ t, evalOf f (.tmp t) = f t := fun _ => rfl
          have ec : ∀ c, evalOf f (.const c) = c := fun _ => rfl
          have ef : ∀ g, evalOf f (.func g) = .func (.func g) #[] #[] := fun _ => rfl
          refine relUpon_value ?_ hC (fun _ => Below.refl _ _) rfl
          go_simp
        -- 10: slot 90 := buildSlice 49 1 #[(0, t89)]
        · intro w L f hC hLi hLd hLn hF
          obtain ⟨d89, _⟩ := hF
          have d89 : f 89 = .bool ((p.n : Int) % 2 == 1) := d89
          refine Step2.live rfl ?_
          have ev : ∀ t, evalOf f (.tmp t) = f t := fun _ => rfl
          have ec : ∀ c, evalOf f (.const c) = c := fun _ => rfl
          have ef : ∀ g, evalOf f (.func g) = .func (.func g) #[] #[] := fun _ => rfl
          refine relUpon_value (w' := w.alloc (.cells #[.bool ((p.n : Int) % 2 == 1)] 4)) (v := .slice (some ⟨w.heap.size, 0, none⟩) 1 1) (by go_simp) (hC.alloc (hLn 11 (by simp)) _) (fun _ => below_new _ _) (fun _ => ⟨_, rfl, (hC.m (hLn 11 (by simp))).size, Holds.new _ _ _⟩)
        -- 11: slot 91 := call { value (Operand.func 28), args := #[t82, t90], argTypes := #[28, 49] }
        · intro w L f hC hLi hLd hLn hF
          obtain ⟨d82, d90, _⟩ := hF
          have d82 : f 82 = .pointer (some ⟨g, 0, none⟩) := d82
          refine Step2.live rfl ?_
          obtain ⟨kn, e0, hkn, hrow⟩ := d90 hLi
          have ev : ∀ t, evalOf f (.tmp t) = f t := fun _ => rfl
          have ec : ∀ c, evalOf f (.const c) = c := fun _ => rfl
          have ef : ∀ g, evalOf f (.func g) = .func (.func g) #[] #[] := fun _ => rfl
          refine relUpon_call (f := 28) (args := #[.pointer (some ⟨g, 0, none⟩), .slice (some ⟨kn, 0, none⟩) 1 1]) (w := w) (by go_simp) (bool_puts (l2 := cur ++ boolE ((p.n : Int) % 2 == 1)) (hC.m hLi) hp.out.x hp.out.b.size [(p.n : Int) % 2 == 1] 1 hrow hkn rfl rfl (by have := hcl.out; omega) (by simp)) ?_
          intro e w1 hw1
          exact ⟨_, hw1.1, ⟨fun e => by simp at e, fun _ => by have := hw1.1; subst this; exact hw1⟩, fun h => absurd rfl h, trivial⟩
      intro x w' hC hV

      have hw1 := hC.d rfl
      rw [← hE.out] at hw1
      have hr := hnx.out _ (hp.out.wrote hw1).2
      clear hV hC hw1
      simp only [framed]
      go_wp2_with fail
      go_roundw
      case rel => exact ⟨k + 1, by omega, by go_num, hr⟩
      case measure => simp [intOf]; omega
    · have hE := Lib.hid (show putE p = smE p.s by simp [putE, q])
      have hrem : Int.tmod (p.what : Int) 5 = 4 := by rw [IntWalk.rem_in _ _ (by omega)]; omega
      have q3 := hpt.out.s0
      have q4 := hpt.out.s1
      have q5 := hpt.out.s2
      have q6 := hpt.out.s3
      have q7 := hpt.out.s4
      have q8 := hpt.out.s5
      have hbn := Lib.hid (below_new wq (.cells #[.slice A1 p.s.al.length c1, .bool p.s.ends, .bool p.s.ret.s, .int .i64 p.s.ret.lo, .int .i64 p.s.ret.hi, .slice A2 p.s.md.length c2] 61))
      have hbx := Lib.hid (Holds.new wq 61 #[.slice A1 p.s.al.length c1, .bool p.s.ends, .bool p.s.ret.s, .int .i64 p.s.ret.lo, .int .i64 p.s.ret.hi, .slice A2 p.s.md.length c2])
      go_wp2_with fail
      refine (summary_any _ W.heap.size g wq.heap.size _ 61 u cur p.s A1 A2 p.s.al.length c1 p.s.md.length c2 (hp.out.x.below hbn.out) (Nat.le_trans hp.out.b.size hbn.out.size) hpo.out.2.2.2 rfl rfl (Nat.le_trans hpl.out.2.1 (by omega)) (Nat.le_trans hpl.out.2.2.1 (by omega)) hbx.out ((hpt.out.r1.more hp.out.b.size).below hbn.out |>.more hbn.out.size) (fun hne => hpt.out.r1.off_low hp.out.x hne) ((hpt.out.r2.more hp.out.b.size).below hbn.out |>.more hbn.out.size) (fun hne => hpt.out.r2.off_low hp.out.x hne) (by have := hcl.out; omega)).mono ?_
      intro e w' hw0
      have hw1 := (Wrote.before hbn.out hw0).1
      rw [← hE.out] at hw1
      obtain ⟨rfl, hw2⟩ := hp.out.wrote hw1
      have hr := hnx.out _ hw2
      clear hw0 hw1 hw2 q0 q3 q4 q5 q6 q7 q8 hrem
      go_wp2_with fail
      go_roundw
      case rel => exact ⟨k + 1, by omega, by go_num, hr⟩
      case measure => simp [intOf]; omega
  obtain rfl : k = ps.length := by omega
  rw [List.take_length] at hp hcl
  obtain ⟨LL, hL⟩ : ∃ L, L = ps.flatMap putE := ⟨_, rfl⟩
  rw [← hL] at hp hcl
  clear hL
  have hlL : Hid (LL.length ≤ 100000000000) := Lib.hid (by omega)
  have hp := Lib.hid hp
  rename_i hp'
  clear hp' hcl hlt
  obtain ⟨A4, c4, rfl, hA4, _, _⟩ := own_row hp.out.o
  have hA4 := Lib.hid hA4
  rename_i hA4'
  clear hA4'
  obtain ⟨wv, rfl⟩ : ∃ x, x = wr := ⟨_, rfl⟩
  have hP5 := Lib.hid ((hA.out.up hp.out.b).up (below_new wv (.cells #[.slice none 0 0] 30)))
  have hx5 := Lib.hid (newWriter_wrt wv)
  have hb5 := Lib.hid (below_new wv (.cells #[.slice none 0 0] 30))
  have hg2 : Hid (wv.heap.size < (wv.alloc (.cells #[.slice none 0 0] 30)).heap.size) := Lib.hid (by simp)
  have hts : Hid (∀ s ∈ ps.map Pt.t, s.size ≤ 1000) := Lib.hid fun s hs => by
    obtain ⟨p, hp, rfl⟩ := List.mem_map.1 hs
    exact (hok.out p hp).2.2.1
  go_wp2_with fail
  refine (newWriter_any _).mono ?_
  rintro e w5 ⟨rfl, rfl⟩
  go_wp2_with fail
  generalize wv.alloc (.cells #[.slice none 0 0] 30) = w5 at hP5 hx5 hb5 hg2 ⊢
  obtain ⟨g2, hg2e⟩ : ∃ x, wv.heap.size = x := ⟨_, rfl⟩
  rw [hg2e] at hx5 hg2 ⊢
  -- THE REGION THAT DRAWS ITS ORDER, BY ONE LEXICAL WALK OVER GENERIC VALUES (written by relgen.py)
  refine wp_region_tabL ((fun _ _ v => v = .pointer (some ⟨g2, 0, none⟩)) ::
    (fun _ _ v => v = .pointer (some ⟨g2, 0, none⟩)) ::
    (fun _ _ v => v = .pointer (some ⟨g2, 0, none⟩)) ::
    (fun _ _ v => v = .slice A ps.length c) ::
    (fun L w v => Till 5 (fun w v => w.ownsRow w5.heap.size 9 1 v ps.length (ps.map fun p => .string p.t)) L w v) ::
    (fun _ _ _ => True) :: [])
    (⟨[(6, none)], 0, []⟩ :: ⟨[(93, some 0)], 0, []⟩ :: ⟨[(94, some 1)], 0, []⟩ :: ⟨[(0, none)], 0, []⟩ :: ⟨[(96, some 3)], 0, [5]⟩ :: ⟨[(95, some 2), (97, some 4)], 0, []⟩ :: [])
    (none :: none :: none :: none :: none :: none :: none :: none :: none :: none :: none :: none :: none :: none :: none :: none :: none :: none :: none :: none :: none :: none :: none :: none :: none :: none :: none :: none :: none :: none :: none :: none :: none :: none :: none :: none :: none :: none :: none :: none :: none :: none :: none :: none :: none :: none :: none :: none :: none :: none :: none :: none :: none :: none :: none :: none :: none :: none :: none :: none :: none :: none :: none :: none :: none :: none :: none :: none :: none :: none :: none :: none :: none :: none :: none :: none :: none :: none :: none :: none :: none :: none :: none :: none :: none :: none :: none :: none :: none :: none :: none :: none :: none :: some 0 :: some 1 :: some 2 :: some 3 :: some 4 :: some 5 :: [])
    (fun L w' => PutAt w5 g2 g2 30 (.slice none 0 0) ([] ++ (ps.map Pt.t).flatMap txtE) (L 5) w') (fun i w w' => i ≠ 5 → Below w.heap.size w w') ?mixK22 ?okK22 ?tabK22 ?frK22 ?inK22 ?keptK22 ?startK22 ?eachK22 ?finK22
  case mixK22 => kernel_rfl
  case okK22 => kernel_rfl
  case tabK22 => kernel_rfl
  case frK22 => kernel_rfl
  case inK22 => rfl
  case keptK22 => exact ⟨fun _ _ _ _ _ _ _ _ _ _ _ h => h, fun _ _ _ _ _ _ _ _ _ _ _ h => h, fun _ _ _ _ _ _ _ _ _ _ _ h => h, fun _ _ _ _ _ _ _ _ _ _ _ h => h, fun _ _ _ _ _ _ _ _ _ _ hG h => Till.keep h fun hne h => own_below h (hG hne), fun _ _ _ _ _ _ _ _ _ _ _ h => h, trivial⟩
  case startK22 => exact ⟨fun _ => (Below.refl _ _).drew, fun h => by simp at h⟩
  case eachK22 =>
    refine ⟨?_, ?_, ?_, ?_, ?_, ?_, trivial⟩
    -- 0: slot 93 := move t6
    · intro w L f hC hLi hLd hLn hF
      obtain ⟨d6, _⟩ := hF
      have d6 : f 6 = .pointer (some ⟨g2, 0, none⟩) := d6
      refine Step2.live rfl ?_
      exact relUpon_value (v := f 6) rfl (hC) (fun _ => Below.refl _ _) d6
    -- 1: slot 94 := nilCheck t93
    · intro w L f hC hLi hLd hLn hF
      obtain ⟨d93, _⟩ := hF
      have d93 : f 93 = .pointer (some ⟨g2, 0, none⟩) := d93
      refine Step2.live rfl ?_
      have ev : ∀ t, evalOf f (.tmp t) = f t := fun _ => rfl
      have ec : ∀ c, evalOf f (.const c) = c := fun _ => rfl
      have ef : ∀ g, evalOf f (.func g) = .func (.func g) #[] #[] := fun _ => rfl
      refine relUpon_value ?_ hC (fun _ => Below.refl _ _) rfl
      go_simp
    -- 2: slot 95 := fieldAddr 30 t94 0
    · intro w L f hC hLi hLd hLn hF
      obtain ⟨d94, _⟩ := hF
      have d94 : f 94 = .pointer (some ⟨g2, 0, none⟩) := d94
      refine Step2.live rfl ?_
      have ev : ∀ t, evalOf f (.tmp t) = f t := fun _ => rfl
      have ec : ∀ c, evalOf f (.const c) = c := fun _ => rfl
      have ef : ∀ g, evalOf f (.func g) = .func (.func g) #[] #[] := fun _ => rfl
      refine relUpon_value ?_ hC (fun _ => Below.refl _ _) rfl
      go_simp
    -- 3: slot 96 := move t0
    · intro w L f hC hLi hLd hLn hF
      obtain ⟨d0, _⟩ := hF
      have d0 : f 0 = .slice A ps.length c := d0
      refine Step2.live rfl ?_
      exact relUpon_value (v := f 0) rfl (hC) (fun _ => Below.refl _ _) d0
    -- 4: slot 97 := call { value (Operand.func 32), args := #[t96], argTypes := #[53] }
    · intro w L f hC hLi hLd hLn hF
      obtain ⟨d96, _⟩ := hF
      have d96 : f 96 = .slice A ps.length c := d96
      refine Step2.live rfl ?_
      have hm := hC.m (hLn 5 (by simp))
      have ev : ∀ t, evalOf f (.tmp t) = f t := fun _ => rfl
      have ec : ∀ c, evalOf f (.const c) = c := fun _ => rfl
      have ef : ∀ g, evalOf f (.func g) = .func (.func g) #[] #[] := fun _ => rfl
      refine relUpon_call (f := 32) (args := #[.slice A ps.length c]) (w := w) (by go_simp) (l2_any w A c ps (hP5.out.up hm) (by omega)) ?_
      rintro e w1 ⟨v', he, ho, hb⟩
      exact ⟨v', he, ⟨fun _ => hm.trans (hb.mono hm.size), fun h => absurd (show L 5 = true from h) (by rw [hLn 5 (by simp)]; simp)⟩, fun _ => hb, fun _ => own_base ho hm.size⟩
    -- 5: slot 98 := call { value (Operand.func 22), args := #[t95, t97], argTypes := #[28, 40] }
    · intro w L f hC hLi hLd hLn hF
      obtain ⟨d95, d97, _⟩ := hF
      have d95 : f 95 = .pointer (some ⟨g2, 0, none⟩) := d95
      refine Step2.live rfl ?_
      have ho := d97 hLi
      have hm := hC.m hLi
      obtain ⟨A3, c3, e0, hrow, _, _⟩ := own_row ho
      have hoff : ps.map Pt.t ≠ [] → blk A3 ∉ [some g2, (Value.slice none 0 0).ownBlock] := fun hne hm' => by
        obtain ⟨b3, off3, e3, _, _⟩ := hrow (by simpa using hne)
        rw [e3] at hm' e0
        have := own_low ho (k := b3) (by rw [e0]; rfl)
        have := hg2.out
        simp [blk, Value.ownBlock] at hm'
        omega
      have ev : ∀ t, evalOf f (.tmp t) = f t := fun _ => rfl
      have ec : ∀ c, evalOf f (.const c) = c := fun _ => rfl
      have ef : ∀ g, evalOf f (.func g) = .func (.func g) #[] #[] := fun _ => rfl
      refine relUpon_call (f := 22) (args := #[.pointer (some ⟨g2, 0, none⟩), .slice A3 ps.length c3]) (w := w) (by go_simp) (text_len w g2 g2 _ _ [] A3 c3 1000 ps.length (ps.map Pt.t) (hx5.out.below hm) (Nat.le_trans (Nat.le_of_lt hg2.out) hm.size) (by simp) (by simpa using hts.out) (by omega) (by rw [Strs, List.map_map]; exact hrow) hoff (by simp; omega)) ?_
      intro e w1 hw1
      have hw2 := (Wrote.before hm hw1).1
      exact ⟨_, hw2.1, ⟨fun e => by simp at e, fun _ => by have := hw2.1; subst this; exact hw2⟩, fun h => absurd rfl h, trivial⟩
  intro x w' hC hV

  have hw1 := hC.d rfl
  clear hV hC
  simp only [framed]
  have hb56 := hw1.below hx5.out (Nat.le_of_lt hg2.out)
  have hbv6 : Hid (Below g2 wv w') := Lib.hid ((by rw [← hg2e]; exact hb5.out : Below g2 wv w5).trans hb56)
  obtain ⟨-, u2, hu2, hM6, hF6⟩ := hw1
  obtain ⟨w6, hw6⟩ : ∃ x, x = w' := ⟨_, rfl⟩
  rw [← hw6] at hbv6 hu2 ⊢
  clear hw6 hM6 hF6 hb56 hP5 hx5 hb5 hg2
  have hbv6' := Lib.hid (show Below wv.heap.size wv w6 by rw [hg2e]; exact hbv6.out)
  have hbW6 := Lib.hid (hp.out.b.trans (hbv6'.out.mono hp.out.b.size))
  have hx6 := Lib.hid (hp.out.x.below hbv6'.out)
  have hA6 := Lib.hid (hA4.out.below hbv6'.out)
  have hu2 := Lib.hid hu2
  clear hp hA4 hbv6
  obtain ⟨L3, hL3⟩ : ∃ L, L = [] ++ (ps.map Pt.t).flatMap txtE := ⟨_, rfl⟩
  have hy6 : Hid (Wrt w6 g2 g2 30 u2 L3) := Lib.hid (by rw [hL3]; exact hu2.out)
  have hL3b : Hid (ps.flatMap (fun p => txtE p.t) = L3) := Lib.hid (by rw [hL3, List.nil_append, List.flatMap_map])
  have hlL3 : Hid (L3.length ≤ 100000000000) := Lib.hid (by
    rw [← hL3b.out]
    have := flat_len_all' (fun p => txtE p.t) 1010 ps (fun p hp => txtE_len 1000 p.t (hok.out p hp).2.2.1 (by omega))
    omega)
  clear hL3 hu2
  have hszv : Hid (wv.heap.size ≤ w6.heap.size) := Lib.hid hbv6'.out.size
  clear hbv6'
  go_wp2_with fail
  go_loopw [7, 8] (fun v i wr => ∃ k : Nat, k ≤ ps.length ∧ i = .int .i64 k ∧ OwnF w6 w6.heap.size none ((ps.take k).flatMap fun p => txtE p.t) wr v ∧ Writes [none] w6 wr) (fun _ i _ => ps.length - (intOf i).toNat)
  case atStart => exact ⟨0, by omega, rfl, ⟨World.ownsRow_nil _ _ _ _, .inl rfl⟩, Writes.refl _ _⟩
  obtain ⟨k, hk, rfl, ho, hM⟩ := hrel
  have hb67 : Below w6.heap.size w6 wr := hM.below (Nat.le_refl _) (fun j hj => by simp at hj)
  have hcl : ((ps.take k).flatMap fun p => txtE p.t).length ≤ 20000 := by
    have := flat_len' (fun p => txtE p.t) 1010 ps (fun p hp => txtE_len 1000 p.t (hok.out p hp).2.2.1 (by omega)) k
    omega
  by_cases hlt : k < ps.length
  case pos =>
    obtain ⟨b, off, A1, c1, A2, c2, rfl, hpt0⟩ := (hA.out.below (hbW6.out.trans (hb67.mono hbW6.out.size))).at_ hlt
    have hft := Lib.hid (flat_take (fun p => txtE p.t) ps k hlt)
    have hpo := (hok.out _ (List.getElem_mem hlt)).2.2.1
    have q0 := hpt0.t
    clear hpt0 hb67
    generalize ps[k] = p at *
    have hcl := Lib.hid hcl
    rename_i hcl'
    have ho := Lib.hid ho
    rename_i ho'
    have hM := Lib.hid hM
    rename_i hM'
    clear hcl' ho' hM'
    go_wp2_with fail
    refine (refText_any wr w6.heap.size u7 _ u7.ownBlock p.t ho.out.sr hM.out.size (by omega) (by have := hcl.out; omega)).mono ?_
    intro e wq hr
    obtain ⟨v', rfl, h3, h4⟩ := hr.link hM.out ho.out.2
    have h3 := Lib.hid h3
    rename_i h3'
    have h4 := Lib.hid h4
    rename_i h4'
    clear h3' h4' hr q0
    go_wp2_with fail
    go_roundw
    case rel => exact ⟨k + 1, by omega, by go_num, by rw [hft.out]; exact h3.out, h4.out⟩
    case measure => simp [intOf]; omega
  obtain rfl : k = ps.length := by omega
  rw [List.take_length] at ho
  rw [hL3b.out] at ho
  obtain ⟨A7, c7, rfl, hA7, _, _⟩ := own_row ho.1
  have hA7 := Lib.hid (show Bytes wr wr.heap.size A7 L3 from hA7)
  rename_i hA7'
  have hb67 := Lib.hid hb67
  rename_i hb67'
  clear hA7' hb67' ho hM hcl hlt
  obtain ⟨w7, rfl⟩ : ∃ x, x = wr := ⟨_, rfl⟩
  have hx7 := Lib.hid (hx6.out.below hb67.out)
  have hy7 := Lib.hid (hy6.out.below hb67.out)
  have hA4 := Lib.hid (show Bytes w7 w7.heap.size A4 LL from (Row.below (Row.more hA6.out hszv.out) hb67.out).more hb67.out.size)
  have hBW := Lib.hid (hbW6.out.trans (hb67.out.mono hbW6.out.size))
  clear hx6 hy6 hA6 hbW6 hb67
  go_wp2_with fail
  -- THE REGION THAT DRAWS ITS ORDER, BY ONE LEXICAL WALK OVER GENERIC VALUES (written by relgen.py)
  refine wp_region_tab ((fun _ v => v = .pointer (some ⟨g, 0, none⟩)) ::
    (fun _ v => v = .pointer (some ⟨g, 0, none⟩)) ::
    (fun _ v => v = .pointer (some ⟨g, 0, none⟩)) ::
    (fun w v => ∃ A' c', v = .slice A' LL.length c' ∧ Bytes w w.heap.size A' LL) ::
    (fun _ v => v = .string (strV LL)) ::
    (fun _ v => v = .slice A4 LL.length c4) ::
    (fun _ v => v = .string (strV LL)) ::
    (fun _ v => v = .bool true) ::
    (fun _ v => v = .bool true) ::
    (fun _ v => v = .pointer (some ⟨g2, 0, none⟩)) ::
    (fun _ v => v = .pointer (some ⟨g2, 0, none⟩)) ::
    (fun _ v => v = .pointer (some ⟨g2, 0, none⟩)) ::
    (fun w v => ∃ A' c', v = .slice A' L3.length c' ∧ Bytes w w.heap.size A' L3) ::
    (fun _ v => v = .string (strV L3)) ::
    (fun _ v => v = .slice A7 L3.length c7) ::
    (fun _ v => v = .string (strV L3)) ::
    (fun _ v => v = .bool true) ::
    (fun _ v => v = .bool true) ::
    (fun _ v => v = .bool true) :: [])
    (⟨[(3, none)], 0, []⟩ :: ⟨[(112, some 0)], 0, []⟩ :: ⟨[(113, some 1)], 0, []⟩ :: ⟨[(114, some 2)], 0, []⟩ :: ⟨[(115, some 3)], 0, []⟩ :: ⟨[(4, none)], 0, []⟩ :: ⟨[(117, some 5)], 0, []⟩ :: ⟨[(116, some 4), (118, some 6)], 0, []⟩ :: ⟨[(119, some 7)], 0, []⟩ :: ⟨[(6, none), (120, some 8)], 120, []⟩ :: ⟨[(121, some 9), (120, some 8)], 120, []⟩ :: ⟨[(122, some 10), (120, some 8)], 120, []⟩ :: ⟨[(123, some 11), (120, some 8)], 120, []⟩ :: ⟨[(124, some 12), (120, some 8)], 120, []⟩ :: ⟨[(7, none), (120, some 8)], 120, []⟩ :: ⟨[(126, some 14), (120, some 8)], 120, []⟩ :: ⟨[(125, some 13), (127, some 15), (120, some 8)], 120, []⟩ :: ⟨[(120, some 8), (128, some 16)], 0, []⟩ :: ⟨[(129, some 17)], 0, []⟩ :: [])
    (none :: none :: some 18 :: none :: none :: none :: none :: none :: none :: none :: none :: none :: none :: none :: none :: none :: none :: none :: none :: none :: none :: none :: none :: none :: none :: none :: none :: none :: none :: none :: none :: none :: none :: none :: none :: none :: none :: none :: none :: none :: none :: none :: none :: none :: none :: none :: none :: none :: none :: none :: none :: none :: none :: none :: none :: none :: none :: none :: none :: none :: none :: none :: none :: none :: none :: none :: none :: none :: none :: none :: none :: none :: none :: none :: none :: none :: none :: none :: none :: none :: none :: none :: none :: none :: none :: none :: none :: none :: none :: none :: none :: none :: none :: none :: none :: none :: none :: none :: none :: none :: none :: none :: none :: none :: none :: none :: none :: none :: none :: none :: none :: none :: some 0 :: some 1 :: some 2 :: some 3 :: some 4 :: some 5 :: some 6 :: some 7 :: some 8 :: some 9 :: some 10 :: some 11 :: some 12 :: some 13 :: some 14 :: some 15 :: some 16 :: some 17 :: [])
    (fun _ w' => Below w7.heap.size w7 w') (fun _ w w' => Below w.heap.size w w') ?mixK28 ?okK28 ?tabK28 ?frK28 ?inK28 ?keptK28 ?startK28 ?eachK28 ?finK28
  case mixK28 => kernel_rfl
  case okK28 => kernel_rfl
  case tabK28 => kernel_rfl
  case frK28 => kernel_rfl
  case inK28 => rfl
  case keptK28 => exact ⟨fun _ _ _ _ _ _ _ h => h, fun _ _ _ _ _ _ _ h => h, fun _ _ _ _ _ _ _ h => h, fun _ _ _ => fun w w' v hG ⟨A', c', e, h⟩ => ⟨A', c', e, h.up hG⟩, fun _ _ _ _ _ _ _ h => h, fun _ _ _ _ _ _ _ h => h, fun _ _ _ _ _ _ _ h => h, fun _ _ _ _ _ _ _ h => h, fun _ _ _ _ _ _ _ h => h, fun _ _ _ _ _ _ _ h => h, fun _ _ _ _ _ _ _ h => h, fun _ _ _ _ _ _ _ h => h, fun _ _ _ => fun w w' v hG ⟨A', c', e, h⟩ => ⟨A', c', e, h.up hG⟩, fun _ _ _ _ _ _ _ h => h, fun _ _ _ _ _ _ _ h => h, fun _ _ _ _ _ _ _ h => h, fun _ _ _ _ _ _ _ h => h, fun _ _ _ _ _ _ _ h => h, fun _ _ _ _ _ _ _ h => h, trivial⟩
  case startK28 => exact (Below.refl _ _).drew
  case eachK28 =>
    refine ⟨?_, ?_, ?_, ?_, ?_, ?_, ?_, ?_, ?_, ?_, ?_, ?_, ?_, ?_, ?_, ?_, ?_, ?_, ?_, trivial⟩
    -- 0: slot 112 := move t3
    · intro w L f hC hLi hLd hLn hF
      obtain ⟨d3, _⟩ := hF
      have d3 : f 3 = .pointer (some ⟨g, 0, none⟩) := d3
      refine Step2.live rfl ?_
      exact relUpon_value (v := f 3) rfl (hC) (Below.refl _ _) d3
    -- 1: slot 113 := nilCheck t112
    · intro w L f hC hLi hLd hLn hF
      obtain ⟨d112, _⟩ := hF
      have d112 : f 112 = .pointer (some ⟨g, 0, none⟩) := d112
      refine Step2.live rfl ?_
      have ev : ∀ t, evalOf f (.tmp t) = f t := fun _ => rfl
      have ec : ∀ c, evalOf f (.const c) = c := fun _ => rfl
      refine relUpon_value ?_ (hC) (Below.refl _ _) rfl
      go_simp
    -- 2: slot 114 := fieldAddr 30 t113 0
    · intro w L f hC hLi hLd hLn hF
      obtain ⟨d113, _⟩ := hF
      have d113 : f 113 = .pointer (some ⟨g, 0, none⟩) := d113
      refine Step2.live rfl ?_
      have ev : ∀ t, evalOf f (.tmp t) = f t := fun _ => rfl
      have ec : ∀ c, evalOf f (.const c) = c := fun _ => rfl
      refine relUpon_value ?_ (hC) (Below.refl _ _) rfl
      go_simp
    -- 3: slot 115 := call { value (Operand.func 18), args := #[t114], argTypes := #[28] }
    · intro w L f hC hLi hLd hLn hF
      obtain ⟨d114, _⟩ := hF
      have d114 : f 114 = .pointer (some ⟨g, 0, none⟩) := d114
      refine Step2.live rfl ?_
      have ev : ∀ t, evalOf f (.tmp t) = f t := fun _ => rfl
      have ec : ∀ c, evalOf f (.const c) = c := fun _ => rfl
      have ef : ∀ g, evalOf f (.func g) = .func (.func g) #[] #[] := fun _ => rfl
      refine relUpon_call (f := 18) (args := #[.pointer (some ⟨g, 0, none⟩)]) (w := w) (by go_simp) (bytes_any w W.heap.size g _ u LL (hx7.out.below hC) hlL.out) ?_
      rintro e w1 ⟨A', c', he, hb, hB, hN, _⟩
      exact ⟨_, he, hC.trans (hB.mono hC.size), hB, ⟨_, _, rfl, hb⟩⟩
    -- 4: slot 116 := convert 26 9 t115
    · intro w L f hC hLi hLd hLn hF
      obtain ⟨d115, _⟩ := hF
      refine Step2.live rfl ?_
      obtain ⟨A', c', e0, hs⟩ := d115
      have kv := run_text (P := Try.prog) w 26 5 Try.underlying26 Try.underlying5 A' LL.length c' LL rfl hs 9 Try.underlying9
      have ev : ∀ t, evalOf f (.tmp t) = f t := fun _ => rfl
      have ec : ∀ c, evalOf f (.const c) = c := fun _ => rfl
      have ef : ∀ g, evalOf f (.func g) = .func (.func g) #[] #[] := fun _ => rfl
      refine relUpon_value ?_ hC (Below.refl _ _) rfl
      go_simp
    -- 5: slot 117 := move t4
    · intro w L f hC hLi hLd hLn hF
      obtain ⟨d4, _⟩ := hF
      have d4 : f 4 = .slice A4 LL.length c4 := d4
      refine Step2.live rfl ?_
      exact relUpon_value (v := f 4) rfl (hC) (Below.refl _ _) d4
    -- 6: slot 118 := convert 26 9 t117
    · intro w L f hC hLi hLd hLn hF
      obtain ⟨d117, _⟩ := hF
      have d117 : f 117 = .slice A4 LL.length c4 := d117
      refine Step2.live rfl ?_
      have kv := run_text (P := Try.prog) w 26 5 Try.underlying26 Try.underlying5 A4 LL.length c4 LL rfl (hA4.out.below hC) 9 Try.underlying9
      have ev : ∀ t, evalOf f (.tmp t) = f t := fun _ => rfl
      have ec : ∀ c, evalOf f (.const c) = c := fun _ => rfl
      have ef : ∀ g, evalOf f (.func g) = .func (.func g) #[] #[] := fun _ => rfl
      refine relUpon_value ?_ hC (Below.refl _ _) rfl
      go_simp
    -- 7: slot 119 := binOp BinOp.eql 9 t116 t118 9
    · intro w L f hC hLi hLd hLn hF
      obtain ⟨d116, d118, _⟩ := hF
      have d116 : f 116 = .string (strV LL) := d116
      have d118 : f 118 = .string (strV LL) := d118
      refine Step2.live rfl ?_
      have ev : ∀ t, evalOf f (.tmp t) = f t := fun _ => rfl
      have ec : ∀ c, evalOf f (.const c) = c := fun _ => rfl
      refine relUpon_value ?_ (hC) (Below.refl _ _) rfl
      go_simp
    -- 8: slot 120 := move t119
    · intro w L f hC hLi hLd hLn hF
      obtain ⟨d119, _⟩ := hF
      have d119 : f 119 = .bool true := d119
      refine Step2.live rfl ?_
      exact relUpon_value (v := f 119) rfl (hC) (Below.refl _ _) d119
    -- 9: slot 121 := move t6
    · intro w L f hC hLi hLd hLn hF
      obtain ⟨d6, d120, _⟩ := hF
      have d6 : f 6 = .pointer (some ⟨g2, 0, none⟩) := d6
      have d120 : f 120 = .bool true := d120
      refine Step2.live (show wantedBy _ (f 120) = true by rw [d120]; rfl) ?_
      exact relUpon_value (v := f 6) rfl (hC) (Below.refl _ _) d6
    -- 10: slot 122 := nilCheck t121
    · intro w L f hC hLi hLd hLn hF
      obtain ⟨d121, d120, _⟩ := hF
      have d121 : f 121 = .pointer (some ⟨g2, 0, none⟩) := d121
      have d120 : f 120 = .bool true := d120
      refine Step2.live (show wantedBy _ (f 120) = true by rw [d120]; rfl) ?_
      have ev : ∀ t, evalOf f (.tmp t) = f t := fun _ => rfl
      have ec : ∀ c, evalOf f (.const c) = c := fun _ => rfl
      refine relUpon_value ?_ (hC) (Below.refl _ _) rfl
      go_simp
    -- 11: slot 123 := fieldAddr 30 t122 0
    · intro w L f hC hLi hLd hLn hF
      obtain ⟨d122, d120, _⟩ := hF
      have d122 : f 122 = .pointer (some ⟨g2, 0, none⟩) := d122
      have d120 : f 120 = .bool true := d120
      refine Step2.live (show wantedBy _ (f 120) = true by rw [d120]; rfl) ?_
      have ev : ∀ t, evalOf f (.tmp t) = f t := fun _ => rfl
      have ec : ∀ c, evalOf f (.const c) = c := fun _ => rfl
      refine relUpon_value ?_ (hC) (Below.refl _ _) rfl
      go_simp
    -- 12: slot 124 := call { value (Operand.func 18), args := #[t123], argTypes := #[28] }
    · intro w L f hC hLi hLd hLn hF
      obtain ⟨d123, d120, _⟩ := hF
      have d123 : f 123 = .pointer (some ⟨g2, 0, none⟩) := d123
      have d120 : f 120 = .bool true := d120
      refine Step2.live (show wantedBy _ (f 120) = true by rw [d120]; rfl) ?_
      have ev : ∀ t, evalOf f (.tmp t) = f t := fun _ => rfl
      have ec : ∀ c, evalOf f (.const c) = c := fun _ => rfl
      have ef : ∀ g, evalOf f (.func g) = .func (.func g) #[] #[] := fun _ => rfl
      refine relUpon_call (f := 18) (args := #[.pointer (some ⟨g2, 0, none⟩)]) (w := w) (by go_simp) (bytes_any w g2 g2 _ u2 L3 (hy7.out.below hC) hlL3.out) ?_
      rintro e w1 ⟨A', c', he, hb, hB, hN, _⟩
      exact ⟨_, he, hC.trans (hB.mono hC.size), hB, ⟨_, _, rfl, hb⟩⟩
    -- 13: slot 125 := convert 26 9 t124
    · intro w L f hC hLi hLd hLn hF
      obtain ⟨d124, d120, _⟩ := hF
      have d120 : f 120 = .bool true := d120
      refine Step2.live (show wantedBy _ (f 120) = true by rw [d120]; rfl) ?_
      obtain ⟨A', c', e0, hs⟩ := d124
      have kv := run_text (P := Try.prog) w 26 5 Try.underlying26 Try.underlying5 A' L3.length c' L3 rfl hs 9 Try.underlying9
      have ev : ∀ t, evalOf f (.tmp t) = f t := fun _ => rfl
      have ec : ∀ c, evalOf f (.const c) = c := fun _ => rfl
      have ef : ∀ g, evalOf f (.func g) = .func (.func g) #[] #[] := fun _ => rfl
      refine relUpon_value ?_ hC (Below.refl _ _) rfl
      go_simp
    -- 14: slot 126 := move t7
    · intro w L f hC hLi hLd hLn hF
      obtain ⟨d7, d120, _⟩ := hF
      have d7 : f 7 = .slice A7 L3.length c7 := d7
      have d120 : f 120 = .bool true := d120
      refine Step2.live (show wantedBy _ (f 120) = true by rw [d120]; rfl) ?_
      exact relUpon_value (v := f 7) rfl (hC) (Below.refl _ _) d7
    -- 15: slot 127 := convert 26 9 t126
    · intro w L f hC hLi hLd hLn hF
      obtain ⟨d126, d120, _⟩ := hF
      have d126 : f 126 = .slice A7 L3.length c7 := d126
      have d120 : f 120 = .bool true := d120
      refine Step2.live (show wantedBy _ (f 120) = true by rw [d120]; rfl) ?_
      have kv := run_text (P := Try.prog) w 26 5 Try.underlying26 Try.underlying5 A7 L3.length c7 L3 rfl (hA7.out.below hC) 9 Try.underlying9
      have ev : ∀ t, evalOf f (.tmp t) = f t := fun _ => rfl
      have ec : ∀ c, evalOf f (.const c) = c := fun _ => rfl
      have ef : ∀ g, evalOf f (.func g) = .func (.func g) #[] #[] := fun _ => rfl
      refine relUpon_value ?_ hC (Below.refl _ _) rfl
      go_simp
    -- 16: slot 128 := binOp BinOp.eql 9 t125 t127 9
    · intro w L f hC hLi hLd hLn hF
      obtain ⟨d125, d127, d120, _⟩ := hF
      have d125 : f 125 = .string (strV L3) := d125
      have d127 : f 127 = .string (strV L3) := d127
      have d120 : f 120 = .bool true := d120
      refine Step2.live (show wantedBy _ (f 120) = true by rw [d120]; rfl) ?_
      have ev : ∀ t, evalOf f (.tmp t) = f t := fun _ => rfl
      have ec : ∀ c, evalOf f (.const c) = c := fun _ => rfl
      refine relUpon_value ?_ (hC) (Below.refl _ _) rfl
      go_simp
    -- 17: slot 129 := pick t120 t128 (const (Value.bool false))
    · intro w L f hC hLi hLd hLn hF
      obtain ⟨d120, d128, _⟩ := hF
      have d120 : f 120 = .bool true := d120
      have d128 : f 128 = .bool true := d128
      refine Step2.live rfl ?_
      have ev : ∀ t, evalOf f (.tmp t) = f t := fun _ => rfl
      have ec : ∀ c, evalOf f (.const c) = c := fun _ => rfl
      refine relUpon_value ?_ (hC) (Below.refl _ _) rfl
      go_simp
    -- 18: slot 2 := assign t129
    · intro w L f hC hLi hLd hLn hF
      obtain ⟨d129, _⟩ := hF
      have d129 : f 129 = .bool true := d129
      refine Step2.live rfl ?_
      exact relUpon_value (v := f 129) rfl (hC) (Below.refl _ _) d129
  intro x w' hC hV

  have e129 : x 18 = .bool true := hV 18 _ rfl rfl
  simp only [framed]
  rw [e129]
  clear hV
  go_wp2
  go_ret
  exact ⟨rfl, hBW.out.trans (hC.mono hBW.out.size)⟩

theorem writes_walk (W : World) (v0 : Value) (o0 : ArgOk 53 W v0) :
    Calls Try.prog 6 #[v0] W fun e w' => e = .returned (.bool true) ∧ Below W.heap.size W w' := by
  obtain ⟨A, n, c, ps, rfl, rfl, h1, h2, hs, hA⟩ := o0.parts
  refine writes_any W A c ps hA (Nat.le_trans h1 h2) hs fun p hp => ?_
  obtain ⟨k, hk⟩ := List.getElem?_of_mem hp
  obtain ⟨css, _, _, _, h4⟩ := hA
  obtain ⟨cs, _, ss, _, A1, c1, A2, c2, _, _, _, h8, h9⟩ := h4 k p hk
  exact ⟨h8, h9⟩
end Go.Proofs.Ytimhghmnnibajaa
