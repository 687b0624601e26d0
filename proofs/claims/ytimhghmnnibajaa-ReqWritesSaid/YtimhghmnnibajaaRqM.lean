/-
  What augurref24's writers answer, as slices of bytes. The walk of ReqKinds.
-/
import Derived.Test.YtimhghmnnibajaaRqL
namespace Go.Proofs.Ytimhghmnnibajaa
open Go.RowKit

theorem Refd.row {w w' : World} {l : List UInt8} {e : Ending} (h : Refd w w.heap.size none l e w') : ∃ A c, e = .returned (.slice A l.length c) ∧ Bytes w' w'.heap.size A l ∧ l.length ≤ c ∧ Below w.heap.size w w' := by
  obtain ⟨v, rfl, ho, hM, _⟩ := h
  obtain ⟨A, c, rfl, hr, _, hc⟩ := own_row ho
  exact ⟨A, c, rfl, hr, hc, hM.below (Nat.le_refl _) (fun j hj => by simp at hj)⟩
theorem refBytesQ_row (w0 : World) (kind : Int) (name text : ByteArray) (n : Int) (hk : i64ok kind) (hnm : name.size ≤ 20000) (htx : text.size ≤ 20000) (hn : i64ok n) :
    Calls Try.prog 43 #[.agg #[.int .i64 kind, .string name, .string text, .int .i64 n]] w0 fun e w' => ∃ A c, e = .returned (.slice A (rqE ⟨kind, name, text, n⟩).length c) ∧ Bytes w' w'.heap.size A (rqE ⟨kind, name, text, n⟩) ∧ (rqE ⟨kind, name, text, n⟩).length ≤ c ∧ Below w0.heap.size w0 w' :=
  (refBytesQ_any w0 kind name text n hk hnm htx hn).mono fun _ _ h => h.row
theorem refBytesP_row (w0 : World) (kind err pos : Int) (A1 : Option Addr) (n1 c1 : Nat) (al : List Al) (text : ByteArray) (n : Int) (hk : i64ok kind) (herr : i64ok err) (hpos : i64ok pos) (hal : al.length = n1) (hn1 : n1 ≤ 1000) (halo : ∀ a ∈ al, a.ok) (hrw : Row w0 w0.heap.size A1 (al.flatMap Al.cells)) (htx : text.size ≤ 20000) (hn : i64ok n) :
    Calls Try.prog 52 #[.agg #[.int .i64 kind, .int .i64 err, .int .i64 pos, .slice A1 n1 c1, .string text, .int .i64 n]] w0 fun e w' => ∃ A c, e = .returned (.slice A (rpE ⟨kind, err, pos, al, text, n⟩).length c) ∧ Bytes w' w'.heap.size A (rpE ⟨kind, err, pos, al, text, n⟩) ∧ (rpE ⟨kind, err, pos, al, text, n⟩).length ≤ c ∧ Below w0.heap.size w0 w' :=
  (refBytesP_any w0 kind err pos A1 n1 c1 al text n hk herr hpos hal hn1 halo hrw htx hn).mono fun _ _ h => h.row

/-- How long a request, a reply may be. -/
theorem rqE_len {r : Rq} {M : Nat} (hk : i64ok r.kind) (h1 : r.name.size ≤ M) (h2 : r.text.size ≤ M) (hM : M ≤ 20000) (hn : i64ok r.n) : (rqE r).length ≤ 40 + 2 * M := by
  unfold rqE
  have a1 := numE_len10 (max 0 r.kind).toNat (by have := hk.2; omega)
  have a2 := txtE_len M r.name h1 (by omega)
  have a3 := txtE_len M r.text h2 (by omega)
  have a4 := intE_len hn
  simp only [List.length_append]
  omega
theorem rpE_len {p : Rp} {M N : Nat} (hk : i64ok p.kind) (he : i64ok p.err) (hp : i64ok p.pos) (ha : p.al.length ≤ N) (hN : N ≤ 1000) (hal : ∀ a ∈ p.al, a.ok) (h2 : p.text.size ≤ M) (hM : M ≤ 20000) (hn : i64ok p.n) : (rpE p).length ≤ 60 + M + 20 * N := by
  unfold rpE
  have a1 := numE_len10 (max 0 p.kind).toNat (by have := hk.2; omega)
  have a2 := intE_len he
  have a3 := intE_len hp
  have a4 := intE_len hn
  have a5 := txtE_len M p.text h2 (by omega)
  have a6 := numE_len10 p.al.length (by omega)
  have a7 := flat_len_all' alE 20 p.al (fun a ha => alE_len (hal a ha))
  unfold alsE
  simp only [List.length_append]
  omega

set_option maxRecDepth 100000 in
set_option maxHeartbeats 16000000 in
theorem kinds_any (W : World) (k n : Int) (hn : i64ok n) :
    Calls Try.prog 13 #[.int .i64 k, .int .i64 n] W fun e w' => e = .returned (.bool true) ∧ Below W.heap.size W w' := by
  have ht1 : -300 < Int.tmod k 300 := by have := Int.tmod_lt_of_pos k (b := 300) (by omega); have := Int.neg_tmod k 300; have := Int.tmod_lt_of_pos (-k) (b := 300) (by omega); omega
  have ht2 : Int.tmod k 300 < 300 := Int.tmod_lt_of_pos k (by omega)
  generalize htt : Int.tmod k 300 = t at ht1 ht2
  have hn := Lib.hid hn
  rename_i hn'
  clear hn'
  go_enter Try.func13, Try.ntmps13
  go_wp2_with fail
  refine (known24_any _).mono ?_
  rintro e w1 ⟨rfl, hb1⟩
  have hb1 := Lib.hid hb1
  rename_i hb1'
  clear hb1'
  obtain ⟨m, hm0, hm9, hm⟩ : ∃ m : Int, 0 ≤ m ∧ m ≤ 299 ∧ (t = -m ∧ 0 < m ∨ t = m) := by
    rcases (show t < 0 ∨ 0 ≤ t by omega) with h | h
    · exact ⟨-t, by omega, by omega, .inl ⟨by omega, by omega⟩⟩
    · exact ⟨t, by omega, by omega, .inr rfl⟩
  clear ht1 ht2
  rcases hm with ⟨hm, hpos⟩ | hm
  all_goals rw [hm] at htt
  all_goals clear hm
  all_goals go_wp2_with fail
  all_goals
    clear htt
    try clear hpos
    refine (refBytesQ_row w1 m ⟨#[]⟩ ⟨#[]⟩ n ⟨by omega, by omega⟩ (by show 0 ≤ 20000; omega) (by show 0 ≤ 20000; omega) hn.out).mono ?_
    rintro e w2 ⟨A2, c2, rfl, hA2, hc2, hb2⟩
    have hlq := rqE_len (r := ⟨m, ⟨#[]⟩, ⟨#[]⟩, n⟩) (M := 0) ⟨by show _ ≤ m; omega, by show m ≤ _; omega⟩ (by show 0 ≤ 0; omega) (by show 0 ≤ 0; omega) (by omega) hn.out
    have hb2' := Lib.hid (hb1.out.trans (hb2.mono hb1.out.size))
    have hA2' := Lib.hid hA2
    clear hb2 hA2 hb1 hc2
    have hoq1 : Hid (1 ≤ m → m ≤ 7 → small n → openQ (rqE ⟨m, ⟨#[]⟩, ⟨#[]⟩, n⟩) = some ⟨m, ⟨#[]⟩, ⟨#[]⟩, n⟩) := Lib.hid fun h1 h2 h3 => openQ_back _ h1 h2 (by show 0 ≤ 20000; omega) (by show 0 ≤ 20000; omega) h3 (by omega)
    have hoq2 : Hid (¬ (1 ≤ m ∧ m ≤ 7 ∧ small n) → openQ (rqE ⟨m, ⟨#[]⟩, ⟨#[]⟩, n⟩) = none) := Lib.hid fun h => openQ_not _ ⟨by show _ ≤ m; omega, by show m ≤ _; omega⟩ (by show 0 ≤ 20000; omega) (by show 0 ≤ 20000; omega) hn.out h
    have hop1 : Hid (m ≤ 5 → small n → openP (rpE ⟨m, 0, 0, [], ⟨#[]⟩, n⟩) = some ⟨m, 0, 0, [], ⟨#[]⟩, n⟩) := Lib.hid fun h2 h3 => openP_back _ hm0 h2 ⟨by simp, by simp⟩ ⟨by simp, by simp⟩ (by simp) (by simp) (by show 0 ≤ 20000; omega) h3
    have hop2 : Hid (¬ (m ≤ 5 ∧ small n) → openP (rpE ⟨m, 0, 0, [], ⟨#[]⟩, n⟩) = none) := Lib.hid fun h => openP_not _ ⟨by show _ ≤ m; omega, by show m ≤ _; omega⟩ ⟨by simp, by simp⟩ ⟨by simp, by simp⟩ rfl (by show 0 ≤ 20000; omega) hn.out h
    generalize hq : rqE ⟨m, ⟨#[]⟩, ⟨#[]⟩, n⟩ = q at hlq hA2' hoq1 hoq2 ⊢
    clear hq
    have hlq' := Lib.hid hlq
    clear hlq
    have hm0' := Lib.hid hm0
    have hm9' := Lib.hid hm9
    clear hm0 hm9
    go_wp2_with fail
    refine (openQ_any w2 A2 _ c2 q hA2'.out rfl (by have := hlq'.out; omega)).mono ?_
    rintro e w3 ⟨rfl, hb3⟩
    have hb3' := Lib.hid (hb2'.out.trans (hb3.mono hb2'.out.size))
    clear hb3 hb2' hA2' hlq'
    obtain ⟨rk, rn, z, hqz, hz⟩ : ∃ rk rn z : Int, retQ (openQ q) = .returned (.tuple #[.agg #[.int .i64 rk, .string ⟨#[]⟩, .string ⟨#[]⟩, .int .i64 rn], .int .i64 z]) ∧ ((1 ≤ m ∧ m ≤ 7 ∧ small n) ∧ rk = m ∧ rn = n ∧ z = 0 ∨ ¬ (1 ≤ m ∧ m ≤ 7 ∧ small n) ∧ z = 80) := by
      by_cases ha : 1 ≤ m ∧ m ≤ 7 ∧ small n
      · exact ⟨m, n, 0, by rw [hoq1.out ha.1 ha.2.1 ha.2.2]; rfl, .inl ⟨ha, rfl, rfl, rfl⟩⟩
      · exact ⟨0, 0, 80, by rw [hoq2.out ha]; rfl, .inr ⟨ha, rfl⟩⟩
    have hz' := Lib.hid hz
    rw [hqz]
    clear hoq1 hoq2 hz hqz
    have hr4 := Lib.hid (Holds.new w3 78 #[.int .i64 rk, .string ⟨#[]⟩, .string ⟨#[]⟩, .int .i64 rn])
    have hbn4 := Lib.hid (hb3'.out.trans ((below_new w3 (.cells #[.int .i64 rk, .string ⟨#[]⟩, .string ⟨#[]⟩, .int .i64 rn] 78)).mono hb3'.out.size))
    go_wp2_with fail
    generalize w3.alloc (.cells #[.int .i64 rk, .string ⟨#[]⟩, .string ⟨#[]⟩, .int .i64 rn] 78) = w4 at hr4 hbn4 ⊢
    generalize w3.heap.size = r4 at hr4 ⊢
    clear hb3'
    refine (refBytesP_row w4 m 0 0 none 0 0 [] ⟨#[]⟩ n ⟨by have := hm0'.out; omega, by have := hm9'.out; omega⟩ ⟨by omega, by omega⟩ ⟨by omega, by omega⟩ rfl (by omega) (by simp) (Row.nil_ _ _ _) (by show 0 ≤ 20000; omega) hn.out).mono ?_
    rintro e w5 ⟨A5, c5, rfl, hA5, hc5, hb5⟩
    have hlp := rpE_len (p := ⟨m, 0, 0, [], ⟨#[]⟩, n⟩) (M := 0) (N := 0) ⟨by have := hm0'.out; show _ ≤ m; omega, by have := hm9'.out; show m ≤ _; omega⟩ ⟨by simp, by simp⟩ ⟨by simp, by simp⟩ (by simp) (by omega) (by simp) (by show 0 ≤ 0; omega) (by omega) hn.out
    generalize hq : rpE ⟨m, 0, 0, [], ⟨#[]⟩, n⟩ = l5 at hlp hA5 hop1 hop2 ⊢
    clear hq
    have hb5' := Lib.hid (hbn4.out.trans (hb5.mono hbn4.out.size))
    have hr5 := Lib.hid (hr4.out.below hb5 hr4.out.lt)
    have hA5' := Lib.hid hA5
    have hlp' := Lib.hid hlp
    clear hA5 hb5 hbn4 hc5 hr4 hlp
    go_wp2_with fail
    refine (openP_any w5 A5 _ c5 l5 hA5'.out rfl (by have := hlp'.out; omega)).mono ?_
    rintro e w6 ⟨hR, hb6⟩
    have hb6' := Lib.hid (hb5'.out.trans (hb6.mono hb5'.out.size))
    have hr6 := Lib.hid (hr5.out.below hb6 hr5.out.lt)
    clear hA5' hb5' hr5 hlp' hb6
    obtain ⟨pk, pe, pp, A6, c6, pn, y, rfl, hy⟩ : ∃ (pk pe pp : Int) (A : Option Addr) (c : Nat) (pn y : Int), e = .returned (.tuple #[.agg #[.int .i64 pk, .int .i64 pe, .int .i64 pp, .slice A 0 c, .string ⟨#[]⟩, .int .i64 pn], .int .i64 y]) ∧ ((m ≤ 5 ∧ small n) ∧ pk = m ∧ pn = n ∧ y = 0 ∨ ¬ (m ≤ 5 ∧ small n) ∧ y = 80) := by
      unfold RetP at hR
      by_cases ha : m ≤ 5 ∧ small n
      · rw [hop1.out ha.1 ha.2] at hR
        obtain ⟨A, c, rfl, _, _⟩ := hR
        exact ⟨_, _, _, A, c, _, _, rfl, .inl ⟨ha, rfl, rfl, rfl⟩⟩
      · rw [hop2.out ha] at hR
        exact ⟨_, _, _, none, 0, _, _, hR, .inr ⟨ha, rfl⟩⟩
    have hy' := Lib.hid hy
    clear hy hR hop1 hop2
    have hbn7 := below_new w6 (.cells #[.int .i64 pk, .int .i64 pe, .int .i64 pp, .slice A6 0 c6, .string ⟨#[]⟩, .int .i64 pn] 86)
    have hb7 := Lib.hid (hb6'.out.trans (hbn7.mono hb6'.out.size))
    have hr7 := hr6.out.below hbn7 hr6.out.lt
    have hp7 := Holds.new w6 86 #[.int .i64 pk, .int .i64 pe, .int .i64 pp, .slice A6 0 c6, .string ⟨#[]⟩, .int .i64 pn]
    have q0 := hr7.cell 0
    have q3 := hr7.cell 3
    have s0 := hp7.cell 0
    have s5 := hp7.cell 5
    simp only [show (#[Value.int .i64 rk, .string ⟨#[]⟩, .string ⟨#[]⟩, .int .i64 rn] : Array Value)[0]? = some (.int .i64 rk) from rfl, show (#[Value.int .i64 rk, .string ⟨#[]⟩, .string ⟨#[]⟩, .int .i64 rn] : Array Value)[3]? = some (.int .i64 rn) from rfl, show (#[Value.int .i64 pk, .int .i64 pe, .int .i64 pp, .slice A6 0 c6, .string ⟨#[]⟩, .int .i64 pn] : Array Value)[0]? = some (.int .i64 pk) from rfl, show (#[Value.int .i64 pk, .int .i64 pe, .int .i64 pp, .slice A6 0 c6, .string ⟨#[]⟩, .int .i64 pn] : Array Value)[5]? = some (.int .i64 pn) from rfl] at q0 q3 s0 s5
    clear hr7 hp7 hbn7 hr6 hb6'
    have hz0 : (1 ≤ m ∧ m ≤ 7 ∧ small n) ∧ rk = m ∧ rn = n ∧ z = 0 ∨ ¬ (1 ≤ m ∧ m ≤ 7 ∧ small n) ∧ z = 80 := hz'.out
    have hy0 : (m ≤ 5 ∧ small n) ∧ pk = m ∧ pn = n ∧ y = 0 ∨ ¬ (m ≤ 5 ∧ small n) ∧ y = 80 := hy'.out
    have hm0 := hm0'.out
    clear hz' hy' hm0' hm9'
    unfold small at hz0 hy0
  rotate_left
  all_goals
    rcases (show (-2147483648 ≤ n ∧ n ≤ 2147483647) ∨ n < -2147483648 ∨ (-2147483648 ≤ n ∧ 2147483647 < n) by omega) with hnc | hnc | hnc
    all_goals
      rcases (show m ≤ 0 ∨ (1 ≤ m ∧ m ≤ 5) ∨ (5 < m ∧ m ≤ 7) ∨ 7 < m by omega) with hmc | hmc | hmc | hmc
      all_goals
        first
        | (have hzz : rk = m ∧ rn = n ∧ z = 0 := by omega
           obtain ⟨e1, e2, e3⟩ := hzz
           rw [e1] at q0
           rw [e2] at q3
           rw [e1, e2, e3]
           clear e1 e2 e3)
        | (have hzz : z = 80 := by omega
           rw [hzz]
           clear hzz)
        first
        | (have hyy : pk = m ∧ pn = n ∧ y = 0 := by omega
           obtain ⟨e1, e2, e3⟩ := hyy
           rw [e1, e2] at q0 q3 s0 s5 hb7
           rw [e1, e2, e3]
           clear e1 e2 e3)
        | (have hyy : y = 80 := by omega
           rw [hyy]
           clear hyy)
        clear hz0 hy0
        go_wp2_with fail
        go_ret
        exact ⟨rfl, hb7.out⟩
end Go.Proofs.Ytimhghmnnibajaa
