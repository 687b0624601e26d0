/-
  The walk of pts.ordered: all strings of some lists, rising, each once.
-/
import Derived.Test.YtkohobkeapcpfaaShelf
import Derived.Test.YtkohobkeapcpfaaOwn
import Derived.Test.YtkohobkeapcpfaaWr
import Derived.Test.YtkohobkeapcpfaaPtP
import Derived.Sort.OwnSorted
import Derived.Sort.Grow
import Derived.Lib.OwnBridge
namespace Go.Proofs.Ytkohobkeapcpfaa
open Go.RowKit

theorem Try.infoStr : (Try.prog.info? 9).map (fun i => (i.zero, i.size, i.bytes)) = some (some (.string ⟨#[]⟩), 1, 16) := by kernel_rfl
theorem own_rowA {w : World} {base : Nat} {e : TypeId} {v : Value} {n : Nat} {xs : List Value} (h : w.ownsRow base e 1 v n xs) : ∃ A c, v = .slice A n c ∧ Row w w.heap.size A xs ∧ n ≤ c := by
  obtain ⟨A, c, e, hr, _, hc⟩ := own_row h
  exact ⟨A, c, e, hr, hc⟩
theorem enc_one {l : List S} : ∀ u ∈ l.map encStr, u.oneCell' = true := by
  intro u hu
  obtain ⟨x, _, rfl⟩ := List.mem_map.1 hu
  rfl
/-- The lists ls of strings lie behind A, each with its strings. -/
def Lists (w : World) (B : Nat) (A : Option Addr) (ls : List (List S)) : Prop :=
  ∃ vs : List Value, vs.length = ls.length ∧ Row w B A vs ∧ ∀ i (h : i < ls.length), ∃ Ai ci, vs[i]? = some (.slice Ai ls[i].length ci) ∧ Row w B Ai (ls[i].map encStr)
theorem Lists.below {w w' : World} {B : Nat} {A : Option Addr} {ls : List (List S)} (h : Lists w B A ls) (hb : Below B w w') : Lists w' B A ls := by
  obtain ⟨vs, hl, hr, hi⟩ := h
  exact ⟨vs, hl, hr.below hb, fun i hlt => by
    obtain ⟨Ai, ci, h1, h2⟩ := hi i hlt
    exact ⟨Ai, ci, h1, Row.below h2 hb⟩⟩
theorem Lists.at_ {w : World} {B : Nat} {A : Option Addr} {ls : List (List S)} {k : Nat} (h : Lists w B A ls) (hk : k < ls.length) :
    ∃ b off Ai ci, A = some ⟨b, off, none⟩ ∧ b < B ∧ w.cell? ⟨b, off + k, none⟩ = some (.slice Ai ls[k].length ci) ∧ Row w B Ai (ls[k].map encStr) := by
  obtain ⟨vs, hl, hr, hi⟩ := h
  obtain ⟨Ai, ci, h1, h2⟩ := hi k hk
  obtain ⟨b, off, e, hb, hc⟩ := hr.at_ (k := k) (by omega)
  have : vs[k]'(by omega) = .slice Ai ls[k].length ci := by
    have h4 := List.getElem?_eq_getElem (l := vs) (i := k) (by omega)
    rw [h4] at h1
    exact Option.some.inj h1
  exact ⟨b, off, Ai, ci, e, hb, by rw [hc, this], h2⟩
/-- One list, just laid into a row. -/
theorem Lists.one {w : World} (t : TypeId) {A : Option Addr} {n c : Nat} {l : List S} (hn : l.length = n) (h : Row w w.heap.size A (l.map encStr)) :
    Lists (w.alloc (.cells #[.slice A n c] t)) (w.alloc (.cells #[.slice A n c] t)).heap.size (some ⟨w.heap.size, 0, none⟩) [l] := by
  subst hn
  refine ⟨_, rfl, Row.fresh w t [.slice A l.length c], fun i hi => ?_⟩
  match i, hi with
  | 0, _ => exact ⟨A, c, rfl, (h.below (below_new w _)).more (below_new w _).size⟩

open Go.Sort in
/-- From what the sort's and Compact's contracts leave to what is said here. -/
theorem sorted_left {w w1 : World} {g cap n nn q : Nat} {os : Array Obj} {ss : List S} (hown : w1.ownsRow w.heap.size 9 1 (.slice (some ⟨g, 0, none⟩) n cap) n (ss.map encStr)) (hbel : Below w.heap.size w w1) (hbg : w.heap.size ≤ g) (hlen : ss.length = n) :
    (putRow encStr (Sort.ahead (grow (putRow encStr (Sort.ahead w1 nn) g 0 (ss.mergeSort fun x y => decide (x ≤ y)).toArray) os) q) g 0 (canon ss ++ List.replicate (n - (canon ss).length) []).toArray).ownsRow w.heap.size 9 1 (.slice (some ⟨g, 0, none⟩) (canon ss).length cap) (canon ss).length ((canon ss).map encStr) ∧
    Below w.heap.size w (putRow encStr (Sort.ahead (grow (putRow encStr (Sort.ahead w1 nn) g 0 (ss.mergeSort fun x y => decide (x ≤ y)).toArray) os) q) g 0 (canon ss ++ List.replicate (n - (canon ss).length) []).toArray) := by
  have hl2 : (ss.mergeSort fun x y => decide (x ≤ y)).length = ss.length := List.length_mergeSort ss
  have hle := canon_len ss
  subst hlen
  rcases hown.2 with ⟨h0, _⟩ | ⟨g', cap', cur, hv, hbase, hb, h1, h2, h3, h4⟩
  · cases h0
  cases hv
  have hs := ownsRow_sorted (n := nn) (os := os) (ts := ss.mergeSort fun x y => decide (x ≤ y)) hl2 hbase hb h1 h2 h3
  have hc := Lib.ownsRow_putRow (q := q) (k := (canon ss).length) (ys := canon ss ++ List.replicate (ss.length - (canon ss).length) []) hs (by simp; omega) (by omega)
  rw [List.take_left] at hc
  exact ⟨hc, Lib.below_putRow (hbel.grown (grownBy_sorted _) hbel.size (fun j hj => by cases hj; exact hbase)) hbg⟩

set_option maxRecDepth 100000 in
set_option maxHeartbeats 8000000 in
theorem ordered_any (w0 : World) (A : Option Addr) (n c : Nat) (ls : List (List S)) (hn : ls.length = n) (hm : n ≤ 100000) (hL : Lists w0 w0.heap.size A ls) (hs : ls.flatten.length ≤ 1000000) :
    Calls Try.prog 26 #[.slice A n c] w0 fun e w' => ∃ v, e = .returned v ∧ w'.ownsRow w0.heap.size 9 1 v (canon ls.flatten).length ((canon ls.flatten).map encStr) ∧ Below w0.heap.size w0 w' := by
  obtain ⟨iS, hiS, hzS0, hzS1, hzS2⟩ := info_parts Try.infoStr
  have hL' := Lib.hid hL
  have hn' := Lib.hid hn
  have hs' := Lib.hid hs
  clear hL hn hs
  go_enter Try.func26, Try.ntmps26
  go_wp2_with fail
  go_loopw [3, 8] (fun rv i wr => ∃ k : Nat, k ≤ n ∧ i = .int .i64 k ∧ wr.ownsRow w0.heap.size 9 1 rv ((ls.take k).flatten).length (((ls.take k).flatten).map encStr) ∧ Below w0.heap.size w0 wr) (fun _ i _ => n - (intOf i).toNat)
  case atStart => exact ⟨0, by omega, rfl, World.ownsRow_nil _ _ _ _, Below.refl _ _⟩
  obtain ⟨k, hk, rfl, ho0, hb0⟩ := hrel
  by_cases hlt : k < n
  · obtain ⟨b, off, Ak, ck, rfl, hb, hcell, hrow⟩ := (hL'.out.below hb0).at_ (k := k) (by rw [hn'.out]; exact hlt)
    have hrow' := Lib.hid hrow
    have ho := Lib.hid ho0
    have hbl := Lib.hid hb0
    have htk : Hid ((ls.take (k + 1)).flatten = (ls.take k).flatten ++ ls[k]'(by rw [hn'.out]; exact hlt)) := Lib.hid (by
      have hk2 : k < ls.length := by rw [hn'.out]; exact hlt
      rw [List.take_succ_eq_append_getElem hk2, List.flatten_append]
      simp)
    have hlk : Hid (((ls.take (k + 1)).flatten).length ≤ 1000000) := Lib.hid (by
      have h1 := hs'.out
      have h2 : ls.flatten = (ls.take (k + 1)).flatten ++ (ls.drop (k + 1)).flatten := by rw [← List.flatten_append, List.take_append_drop]
      rw [h2, List.length_append] at h1
      omega)
    clear hrow ho0 hb0
    generalize ls[k]'(by rw [hn'.out]; exact hlt) = lk at hcell hrow' htk
    have hsum : ((ls.take k).flatten).length + lk.length ≤ 1000000 := by
      have := hlk.out
      rw [htk.out, List.length_append] at this
      exact this
    generalize (ls.take k).flatten = cur at *
    have hbs := Lib.hid hbl.out.size
    go_wp2_with
      (at_builtin
       go_loud (refine wpList_append_row _ rfl (.tmp 12) (.tmp 13) 23 rfl w0.heap.size 9 iS (.string ⟨#[]⟩) 16 Try.underlying23 hiS hzS0 hzS1 hzS2 rfl u3 cur.length (cur.map encStr) rfl ho.out w0.heap.size Ak lk.length ck (lk.map encStr) rfl (by simp) hrow'.out enc_one (by unfold maxLen; omega) (by omega) hbs.out ?_)
       intro v3 w3 ho3 hg3 _
       have ho4 := Lib.hid ho3
       have hb4 := Lib.hid (hbl.out.trans ((Writes.of_grown hg3 (M := [u3.ownBlock]) (by simp)).below hbs.out (fun j hj => by
         rcases ho.out.2 with ⟨h, _⟩ | ⟨g, cap, cur2, h, hg, _⟩
         · rw [h] at hj; simp [Value.ownBlock] at hj
         · rw [h] at hj; simp [Value.ownBlock] at hj; omega)))
       clear ho3 hg3)
    go_roundw
    case rel => exact ⟨k + 1, by omega, by go_num, by rw [htk.out, List.length_append, List.map_append]; exact ho4.out, hb4.out⟩
    case measure => simp [intOf]; omega
  obtain rfl : k = n := by omega
  rw [show ls.take k = ls from by rw [← hn'.out, List.take_length]] at ho0
  generalize hfl : ls.flatten = ss at ho0 hs'
  have hss : ss.length ≤ 1000000 := hs'.out
  have hfl' := Lib.hid hfl
  clear hfl
  by_cases hnil : u3 = .slice none 0 0
  · subst hnil
    have hss0 : ss = [] := by
      rcases ho0.2 with ⟨_, h⟩ | ⟨g, cap, cur, h, _⟩
      · exact List.eq_nil_of_length_eq_zero h
      · cases h
    subst hss0
    clear ho0
    go_wp2_with fail
    refine (Try.slices_Sort_string_none none 0 wr).mono ?_
    rintro e w2 ⟨rfl, rfl⟩
    go_wp2_with fail
    refine (Try.slices_Compact_string_empty none 0 w2).mono ?_
    rintro e w3 ⟨rfl, rfl⟩
    have hb1 := Lib.hid hb0
    clear hb0
    go_wp2_with fail
    go_ret
    exact ⟨_, rfl, by rw [hfl'.out, canon_nil]; exact World.ownsRow_nil _ _ _ _, hb1.out⟩
  · obtain ⟨g, cap, hv, hbg, hgl, hnc, hcm, hlen, hH⟩ := Lib.holds_of_ownsRow ho0 hnil
    subst hv
    have hfin := Lib.hid (fun nn os q => sorted_left (nn := nn) (os := os) (q := q) (ss := ss) ho0 hb0 hbg rfl)
    have hsort := Lib.hid (Try.slices_Sort_string g 0 cap ss wr hH hgl (by omega))
    have hH2 : Hid (∀ nn os, Sort.Holds encStr (Sort.grow (Sort.putRow encStr (Sort.ahead wr nn) g 0 (ss.mergeSort fun x y => decide (x ≤ y)).toArray) os) g 0 (ss.mergeSort fun x y => decide (x ≤ y)).toArray) := Lib.hid fun nn os =>
      Sort.holds_grow encStr _ os g 0 _ (by simpa [Sort.putRow, Sort.mapBlock, Sort.ahead] using hgl) (Sort.holds_putRow encStr _ g 0 _ _ (Sort.holds_ahead encStr wr nn g 0 _ hH) (by simp))
    have hl2 : Hid ((ss.mergeSort fun x y => decide (x ≤ y)).length = ss.length) := Lib.hid (List.length_mergeSort ss)
    have hnc' := Lib.hid hnc
    clear ho0 hb0 hH hnil hlen hnc
    go_wp2_with fail
    refine hsort.out.mono ?_
    rintro e w2 ⟨rfl, nn, os, rfl⟩
    clear hsort
    go_wp2_with fail
    have hcomp := Try.slices_Compact_string g 0 cap (ss.mergeSort fun x y => decide (x ≤ y)) _ (hH2.out nn os) (by rw [hl2.out]; omega) (by rw [hl2.out]; exact hnc'.out)
    rw [hl2.out] at hcomp
    refine hcomp.mono ?_
    rintro e w3 ⟨rfl, q, rfl⟩
    have hf := Lib.hid (hfin.out nn os q)
    clear hcomp hH2 hfin
    go_wp2_with fail
    go_ret
    exact ⟨_, rfl, by rw [hfl'.out]; exact hf.out.1, hf.out.2⟩
end Go.Proofs.Ytkohobkeapcpfaa
