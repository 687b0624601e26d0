/-
  The walks of the reference's writers (augurref1): Num, Int, Text, Bool. They append to what is handed in: a row of the call's own, or one without room.
-/
import Derived.Test.YtimhghmnnibajaaCodeT
import Derived.ArgAppend
namespace Go.Proofs.Ytimhghmnnibajaa
open Go.RowKit Go.ChangeShapes Go.WideShapes Go.Deep

/-- The slice v holds the bytes l: a row that the call owns (M its block), or one without room (then nothing is written into it: M is none). -/
def Sr (w : World) (B : Nat) (v : Value) (l : List UInt8) (M : Option Nat) : Prop :=
  (w.ownsRow B 5 1 v l.length (l.map byteV) ∧ M = v.ownBlock) ∨ (M = none ∧ ∃ A, v = .slice A l.length l.length ∧ Bytes w w.heap.size A l)
/-- What a writer of the reference answers. -/
def Refd (w : World) (B : Nat) (M : Option Nat) (l : List UInt8) (e : Ending) (w' : World) : Prop :=
  ∃ v, e = .returned v ∧ w'.ownsRow B 5 1 v l.length (l.map byteV) ∧ Writes [M] w w' ∧ (v.ownBlock = M ∨ ∃ k, v.ownBlock = some k ∧ w.heap.size ≤ k)
section
variable {w w' w'' : World} {B : Nat} {v : Value} {l l2 : List UInt8} {M : Option Nat} {e : Ending}
theorem Sr.own (h : w.ownsRow B 5 1 v l.length (l.map byteV)) : Sr w B v l v.ownBlock := .inl ⟨h, rfl⟩
theorem Sr.nil_ (w : World) (B : Nat) : Sr w B (.slice none 0 0) [] none := .inl ⟨World.ownsRow_nil _ _ _ _, rfl⟩
theorem Sr.below (h : Sr w B v l M) (hb : Below w.heap.size w w') : Sr w' B v l M := by
  rcases h with ⟨h, e⟩ | ⟨e, A, h1, h2⟩
  · exact .inl ⟨own_below h hb, e⟩
  · exact .inr ⟨e, A, h1, h2.up hb⟩
theorem Sr.lt (h : Sr w B v l M) {k : Nat} (hk : w.heap.size ≤ k) : M ≠ some k := by
  rcases h with ⟨h, e⟩ | ⟨e, _⟩
  · rw [e]
    exact fun e' => own_lt h hk e'.symm
  · rw [e]
    simp
theorem Sr.low (h : Sr w B v l M) {k : Nat} (hk : M = some k) : B ≤ k := by
  rcases h with ⟨h, e⟩ | ⟨e, _⟩
  · exact own_low h (hk.symm.trans e)
  · rw [e] at hk
    cases hk
theorem Refd.below (h : Sr w B v l M) (hB : B ≤ w.heap.size) (hr : Refd w B M l2 e w') : Below B w w' := by
  obtain ⟨v', _, _, hM, _⟩ := hr
  exact hM.below hB fun k hk => by
    simp only [List.mem_cons, List.mem_nil_iff, or_false] at hk
    exact h.low hk.symm
end

set_option maxRecDepth 100000 in
/-- One byte appended. -/
theorem wpList_append_sr {ops : Array Oper} {rest : List Oper} {o : Oper} {a : Act} {Q : Exit → Act → World → Prop} {w : World} (hgd : o.guard = none) (s x : Operand) (t : TypeId)
    (ho : o.op = .call { callee := .builtin .append, args := #[s, x], argTypes := #[t, t] })
    (B : Nat) (i : TypeInfo) (ht : Try.prog.underlying t = some (.slice 5)) (hi : Try.prog.info? 5 = some i) (hz : i.zero = some (.int .u8 0))
    (hsize : i.size = 1) (hby : i.bytes = 1)
    (v : Value) (l : List UInt8) (M : Option Nat) (hs : a.eval s = v) (hown : Sr w B v l M)
    (kb : Nat) (y : UInt8) (z : Int) (hx : a.eval x = .slice (some ⟨kb, 0, none⟩) 1 1) (hr : w.cell? ⟨kb, 0, none⟩ = some (.int .u8 z)) (hy : z = (y.toNat : Int))
    (h63 : l.length ≤ 100000000000) (hbase : B ≤ w.heap.size)
    (h : ∀ v' w', w'.ownsRow B 5 1 v' (l ++ [y]).length ((l ++ [y]).map byteV) → Writes [M] w w' → (v'.ownBlock = M ∨ ∃ k, v'.ownBlock = some k ∧ w.heap.size ≤ k) → wpList Try.prog ops Q rest (a.put o.dst v') w') : wpList Try.prog ops Q (o :: rest) a w := by
  subst hy
  rcases hown with ⟨hown, rfl⟩ | ⟨rfl, A, hv, hb⟩
  · refine wpList_append_row w hgd s x t ho B 5 i (.int .u8 0) 1 ht hi hz hsize hby rfl v _ _ hs hown w.heap.size (some ⟨kb, 0, none⟩) 1 1 [.int .u8 y.toNat] hx rfl (fun _ => ⟨kb, 0, rfl, block_lt_of_cell hr, fun j u hu => by
      cases j with
      | zero => simp at hu; subst hu; exact hr
      | succ j => simp at hu⟩) (by intro u hu; simp at hu; subst hu; rfl) (by unfold maxLen; omega) (by omega) hbase ?_
    intro v' w' h1 h2 h3
    refine h v' w' (by simpa [byteV] using h1) (Writes.of_grown h2 (by simp)) ?_
    rcases h3 with h3 | h3
    · exact .inl h3
    · exact .inr ⟨_, h3, Nat.le_refl _⟩
  · subst hv
    have hcell : ∀ b, A = some b → ∀ j u, (l.map byteV)[j]? = some u → w.cell? (b.add j) = some u := by
      intro b hb' j u hu
      obtain ⟨bk, off, e, _, hc⟩ := hb (by rintro h; rw [h] at hu; simp at hu)
      rw [hb'] at e
      injection e with e
      subst e
      have hadd : (⟨bk, off, none⟩ : Addr).add j = ⟨bk, off + j, none⟩ := by unfold Addr.add; split <;> simp_all
      rw [hadd]
      exact hc j u hu
    refine wpList_append_grows w hgd s x t ho 5 i (.int .u8 0) 1 1 ht hi hz hsize hby rfl (by omega) A _ _ (l.map byteV) hs (fun hA => ?_) (by simp) hcell ⟨kb, 0, none⟩ 1 1 [.int .u8 y.toNat] hx rfl (fun j u hu => by
      cases j with
      | zero => simp at hu; subst hu; exact hr
      | succ j => simp at hu) (by intro u hu; simp at hu; subst hu; rfl) (by omega) (by unfold maxLen; omega) (by omega) ?_
    · subst hA
      have : l = [] := by
        rcases l with _ | ⟨b, r⟩
        · rfl
        · obtain ⟨_, _, h, _⟩ := hb (by simp); cases h
      subst this
      exact ⟨rfl, rfl⟩
    · intro v' w' h1 h2
      refine h v' w' (own_base (by simpa [byteV] using h1) hbase) (Writes.of_grown h2 (by simp)) ?_
      rcases h1.2 with ⟨_, h0⟩ | ⟨g, cap, cur, rfl, hg, _⟩
      · simp at h0
      · exact .inr ⟨g, rfl, hg⟩

/-- Where the loop of Num stands: so much of n is left, the bytes bs are written. -/
def RefAt (w : World) (B : Nat) (M : Option Nat) (l : List UInt8) (n m : Nat) (v : Value) (wr : World) : Prop :=
  ∃ bs M', Sr wr B v (l ++ bs) M' ∧ bs ++ numE m = numE n ∧ Writes [M] w wr ∧ (M' = M ∨ ∃ k, M' = some k ∧ w.heap.size ≤ k)

set_option maxRecDepth 100000 in
set_option maxHeartbeats 2000000 in
theorem refNum_any (w : World) (B : Nat) (v : Value) (l : List UInt8) (M : Option Nat) (n : Nat) (hv : Sr w B v l M) (hB : B ≤ w.heap.size) (hn : n < 18446744073709551616) (hlen : l.length ≤ 99999999900) :
    Calls Try.prog 63 #[v, .int .u64 n] w (Refd w B M (l ++ numE n)) := by
  obtain ⟨iA, hiA, hzA0, hzA1, hzA2⟩ := info_parts Try.infoByte
  have hv := Lib.hid hv
  rename_i hv'
  clear hv'
  go_enter Try.func63, Try.ntmps63
  go_wp2
  go_loopw [0, 1] (fun b x wr => ∃ m : Nat, x = .int .u64 m ∧ m < 18446744073709551616 ∧ RefAt w B M l n m b wr) (fun _ x _ => (intOf x).toNat)
  case atStart => exact ⟨n, rfl, hn, [], M, by simpa using hv.out, by simp, Writes.refl _ _, .inl rfl⟩
  obtain ⟨m, rfl, hm, bs, M', hs, hbs, hW, hM'⟩ := hrel
  have hsz := hW.size
  have hbl : bs.length + (numE m).length ≤ 10 := by
    have h1 := congrArg List.length hbs
    rw [List.length_append] at h1
    have := numE_len10 n hn
    omega
  have hll : (l ++ bs).length ≤ 100000000000 := by rw [List.length_append]; omega
  have hbs := Lib.hid hbs
  rename_i hbs'
  have hs1 := Lib.hid hs
  have hlt0 : Hid (∀ k, wr.heap.size ≤ k → M' ≠ some k) := Lib.hid fun k hk => hs.lt hk
  have hM' := Lib.hid hM'
  rename_i hM''
  have hW := Lib.hid hW
  rename_i hW'
  clear hbs' hs hM'' hW'
  have hjoin : Hid (∀ w3, ∀ v3 : Value, Below wr.heap.size wr w3 → True) := Lib.hid fun _ _ _ => trivial
  clear hjoin
  by_cases h128 : m < 128
  · have hne := Lib.hid (numE_small h128)
    go_wp2_with (at_builtin
                 refine wpList_append_sr rfl (.tmp 15) (.tmp 18) 26 rfl B iA Try.underlying26 hiA hzA0 hzA1 hzA2 u0 _ M' rfl (hs1.out.below (below_new _ _)) wr.heap.size (UInt8.ofNat m) _ rfl ((Holds.new _ _ _).cell 0) (by rw [UInt8.toNat_ofNat_of_lt' (show m < 256 by omega)]) hll (by simp; omega) ?_
                 intro v3 w3 ho hg hat)
    go_ret
    refine ⟨v3, rfl, ?_, ?_, ?_⟩
    · rw [← hbs.out, hne.out, ← List.append_assoc]
      exact ho
    · refine hW.out.then_ ((Writes.alloc _ _ _).trans hg) fun k hk e => ?_
      simp only [List.mem_cons, List.mem_nil_iff, or_false] at e ⊢
      rcases hM'.out with h | ⟨j, h, hj⟩
      · rw [e, h]
      · rw [h] at e
        injection e with e
        omega
    · rcases hat with h | ⟨k, h, hk⟩
      · rcases hM'.out with h' | ⟨j, h', hj⟩
        · exact .inl (h.trans h')
        · exact .inr ⟨j, h.trans h', hj⟩
      · exact .inr ⟨k, h, by simp at hk; omega⟩
  · have hne := Lib.hid (numE_big h128)
    have hor := or128_u8 m
    go_wp2_with (at_builtin
                 refine wpList_append_sr rfl (.tmp 7) (.tmp 11) 26 rfl B iA Try.underlying26 hiA hzA0 hzA1 hzA2 u0 _ M' rfl (hs1.out.below (below_new _ _)) wr.heap.size (UInt8.ofNat (m % 128 + 128)) _ rfl ((Holds.new _ _ _).cell 0) (by rw [UInt8.toNat_ofNat_of_lt' (show m % 128 + 128 < 256 by omega)]; omega) hll (by simp; omega) ?_
                 intro v3 w3 ho hg hat)
    go_roundw
    case rel =>
      refine ⟨m / 128, by go_num, by omega, bs ++ [UInt8.ofNat (m % 128 + 128)], v3.ownBlock, ?_, by rw [← hbs.out, hne.out, List.append_assoc]; rfl, ?_, ?_⟩
      · rw [← List.append_assoc]
        exact Sr.own ho
      · refine hW.out.then_ ((Writes.alloc _ _ _).trans hg) fun k hk e => ?_
        simp only [List.mem_cons, List.mem_nil_iff, or_false] at e ⊢
        rcases hM'.out with h | ⟨j, h, hj⟩
        · rw [e, h]
        · rw [h] at e
          injection e with e
          omega
      · rcases hat with h | ⟨k, h, hk⟩
        · rcases hM'.out with h' | ⟨j, h', hj⟩
          · exact .inl (h.trans h')
          · exact .inr ⟨j, h.trans h', hj⟩
        · exact .inr ⟨k, h, by simp at hk; omega⟩
    case measure => simp [intOf]; omega
end Go.Proofs.Ytimhghmnnibajaa
