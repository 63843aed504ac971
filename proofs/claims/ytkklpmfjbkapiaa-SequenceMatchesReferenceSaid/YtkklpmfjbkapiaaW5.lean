/- WALKS: the small functions of the law. -/
import Derived.Test.YtkklpmfjbkapiaaW1
import Derived.Test.YtkklpmfjbkapiaaPure3
namespace Go.Proofs.Ytkklpmfjbkapiaa
open Go.RowKit

theorem info_str : (Try.prog.info? 9).map (fun i => (i.zero, i.size, i.bytes)) = some (some (.string ByteArray.empty), 1, 16) := by kernel_rfl

set_option maxHeartbeats 400000 in
theorem few_any (A : Option Addr) (c : Nat) (l : List ByteArray) (w : World) (hl : l.length ≤ 9223372036854775807) (h : Rd w A (l.map Value.string)) :
    Calls Try.prog 10 #[.slice A l.length c] w fun e w' => SomeBool (fun b => b = true → l.length ≤ 30) e ∧ w = w' := by
  have H := Lib.hid h; clear h
  go_enter Try.func10, Try.ntmps10
  go_wp2
  go_loop [3] (fun i => ∃ k : Nat, k ≤ l.length ∧ k ≤ 31 ∧ i = .int .i64 k) (fun i => l.length - (intOf i).toNat)
  case atStart => exact ⟨0, Nat.zero_le _, by omega, rfl⟩
  case round =>
    obtain ⟨k, hk, hk31, rfl⟩ := hrel
    by_cases hlt : k < l.length
    · by_cases h31 : k < 31
      · obtain ⟨b, off, rfl, hb, hc⟩ := H.out.map_at hlt
        by_cases hs : 60 < l[k].size
        · go_wp2
          go_ret
          exact ⟨⟨false, rfl, fun e => by cases e⟩, rfl⟩
        · go_wp2
          go_round
          case rel => exact ⟨k + 1, hlt, h31, by go_num⟩
          case measure => simp [intOf]; omega
      · go_wp2
        go_ret
        exact ⟨⟨_, rfl, fun e => by have := of_decide_eq_true e; omega⟩, rfl⟩
    · go_wp2
      go_ret
      exact ⟨⟨_, rfl, fun e => by have := of_decide_eq_true e; omega⟩, rfl⟩

/-- whether a list arises from another one when some elements are left out -/
def withinF : List ByteArray → List ByteArray → Bool
  | [], _ => true
  | _ :: _, [] => false
  | x :: xs, y :: ys => if y = x then withinF xs ys else withinF (x :: xs) ys
theorem withinF_iff (l m : List ByteArray) : withinF l m = true ↔ l.Sublist m := by
  induction m generalizing l with
  | nil => cases l <;> simp [withinF]
  | cons y ys ih =>
    cases l with
    | nil => simp [withinF]
    | cons x xs =>
      simp only [withinF]
      split
      · rename_i e; subst e; rw [ih]; exact List.cons_sublist_cons.symm
      · rename_i e
        rw [ih]
        constructor
        · exact fun h => h.trans (List.sublist_cons_self _ _)
        · intro h; cases h with
          | cons _ h => exact h
          | cons_cons _ h => exact absurd rfl e
theorem withinF_hit {l m : List ByteArray} {i k : Nat} (hi : i < m.length) (hk : k < l.length) (e : m[i] = l[k]) : withinF (l.drop k) (m.drop i) = withinF (l.drop (k + 1)) (m.drop (i + 1)) := by
  rw [List.drop_eq_getElem_cons hk, List.drop_eq_getElem_cons hi]; simp only [withinF]; rw [if_pos e]
theorem withinF_miss {l m : List ByteArray} {i k : Nat} (hi : i < m.length) (hk : k < l.length) (e : m[i] ≠ l[k]) : withinF (l.drop k) (m.drop i) = withinF (l.drop k) (m.drop (i + 1)) := by
  rw [List.drop_eq_getElem_cons hk, List.drop_eq_getElem_cons hi]; simp only [withinF]; rw [if_neg e]
theorem withinF_end {l m : List ByteArray} {i k : Nat} (hk : k ≤ l.length) (h : m.length ≤ i ∨ l.length ≤ k) : withinF (l.drop k) (m.drop i) = decide ((k : Int) = (l.length : Int)) := by
  by_cases e : l.length ≤ k
  · rw [List.drop_of_length_le e]
    have : (k : Int) = (l.length : Int) := by omega
    simp [withinF, this]
  · rw [List.drop_of_length_le (h.resolve_right e), List.drop_eq_getElem_cons (by omega)]
    have : ¬ (k : Int) = (l.length : Int) := by omega
    simp [withinF, this]

set_option maxHeartbeats 800000 in
theorem within_any (A B : Option Addr) (c d : Nat) (l m : List ByteArray) (n1 n2 : Nat) (w : World) (hn1 : n1 = l.length) (hn2 : n2 = m.length) (hl : l.length ≤ 9223372036854775807) (hm : m.length ≤ 9223372036854775807)
    (h : Rd w A (l.map Value.string)) (h2 : Rd w B (m.map Value.string)) :
    Calls Try.prog 17 #[.slice A n1 c, .slice B n2 d] w fun e w' => e = .returned (.bool (withinF l m)) ∧ Dr w w' := by
  subst hn1 hn2
  have H := Lib.hid h; clear h
  have H2 := Lib.hid h2; clear h2
  go_enter Try.func17, Try.ntmps17
  go_wp2
  go_loopw [5, 6] (fun kk i wr => ∃ k j : Nat, k ≤ l.length ∧ j ≤ m.length ∧ kk = .int .i64 k ∧ i = .int .i64 j ∧ Hid (withinF l m = withinF (l.drop k) (m.drop j)) ∧ Dr w wr) (fun _ i _ => m.length - (intOf i).toNat)
  case atStart => exact ⟨0, 0, Nat.zero_le _, Nat.zero_le _, rfl, rfl, Lib.hid rfl, dr0⟩
  case round =>
    obtain ⟨k, j, hk, hj, rfl, rfl, hw, n, rfl⟩ := hrel
    by_cases hjlt : j < m.length
    · by_cases hklt : k < l.length
      · obtain ⟨b, off, rfl, hb, hc⟩ := H.out.map_at hklt
        obtain ⟨b2, off2, rfl, hb2, hc2⟩ := H2.out.map_at hjlt
        by_cases he : m[j] = l[k]
        · have he' := str_eq_t he
          have Hn := Lib.hid (hw.out.trans (withinF_hit hjlt hklt he)); clear he
          go_wp2
          go_quiet (fail)
          go_wp2
          exact ⟨⟨k + 1, j + 1, hklt, hjlt, by go_num, by go_num, Hn, by first | exact dr1 | exact dr2⟩, by simp [intOf]; omega⟩
        · have he' := str_eq_f he
          have Hn := Lib.hid (hw.out.trans (withinF_miss hjlt hklt he)); clear he
          go_wp2
          go_quiet (fail)
          go_wp2
          exact ⟨⟨k, j + 1, hk, hjlt, rfl, by go_num, Hn, by first | exact dr1 | exact dr2⟩, by simp [intOf]; omega⟩
      · have Hr := Lib.hid (hw.out.trans (withinF_end hk (.inr (by omega))))
        go_wp2
        go_ret
        exact ⟨ret_bool (by rw [Hr.out]; rfl), dr1⟩
    · have Hr := Lib.hid (hw.out.trans (withinF_end hk (.inl (by omega))))
      go_wp2
      go_ret
      exact ⟨ret_bool (by rw [Hr.out]; rfl), dr1⟩

set_option maxHeartbeats 800000 in
theorem picked_any (A : Option Addr) (c : Nat) (l : List ByteArray) (bits : Int) (w : World) (hl : l.length ≤ 30) (h : Rd w A (l.map Value.string)) :
    Calls Try.prog 16 #[.slice A l.length c, .int .u32 bits] w fun e w' => ∃ (v : Value) (o : List ByteArray), e = .returned v ∧ o.Sublist l ∧ w'.ownsRow w.heap.size 9 1 v o.length (o.map Value.string) ∧ Below w.heap.size w w' := by
  have H := Lib.hid h; clear h
  go_enter Try.func16, Try.ntmps16
  go_wp2
  go_loopw [5, 6] (fun v i wr => ∃ (k : Nat) (o : List ByteArray), k ≤ l.length ∧ i = .int .i64 k ∧ Hid (o.Sublist (l.take k)) ∧ o.length ≤ 30 ∧ Hid (wr.ownsRow w.heap.size 9 1 v o.length (o.map Value.string)) ∧ Hid (Below w.heap.size w wr)) (fun _ i _ => l.length - (intOf i).toNat)
  case atStart => exact ⟨0, [], Nat.zero_le _, rfl, Lib.hid (List.nil_sublist _), by simp, World.ownsRow_nil _ _ _ _, Below.refl _ _⟩
  case round =>
    obtain ⟨k, o, hk, rfl, hsub, ho30, hown, hbel⟩ := hrel
    by_cases hlt : k < l.length
    · have hk32 : k < 32 := by omega
      obtain ⟨b, off, rfl, hb, hc0⟩ := H.out.map_at hlt
      have hc := (hbel.out.cell (p := ⟨b, off + k, none⟩) hb).trans hc0
      have hsz : w.heap.size ≤ wr.heap.size := hbel.out.size
      clear hc0
      have hs1 : Hid ((o ++ [l[k]]).Sublist (l.take (k + 1))) := Lib.hid (by
        rw [List.take_succ_eq_append_getElem hlt]; exact hsub.out.append (List.Sublist.refl _))
      have hs2 : Hid (o.Sublist (l.take (k + 1))) := Lib.hid (hsub.out.trans (List.take_sublist_take_left (by omega)))
      have hle : o.length + 1 ≤ 30 := by
        have := hs1.out.length_le; simp at this; omega
      go_wp2_with (at_builtin; refine wpList_app1 rfl (.tmp 23) (.tmp 28) 22 rfl Try.underlying22 info_str rfl (by decide) w.heap.size _ o.length (o.map Value.string) _ _ rfl (by simp [Value.oneCell']) rfl rfl (by simp) (by exact hown.out) hsz (by omega) (by omega) ?_; intro v1 w1 hown1 hb1)
      · refine ⟨⟨k + 1, o ++ [l[k]], hlt, by go_num, hs1, by simp; omega, ?_, hbel.out.trans hb1⟩, by simp [intOf]; omega⟩
        show w1.ownsRow _ _ _ _ _ _
        simpa using hown1
      · exact ⟨⟨k + 1, o, hlt, by go_num, hs2, ho30, hown, hbel⟩, by simp [intOf]; omega⟩
    · go_wp2
      go_ret
      exact ⟨_, o, rfl, hsub.out.trans (List.take_sublist _ _), hown.out, hbel.out⟩

theorem inF_iff (l : List ByteArray) (s : ByteArray) : inF l s = true ↔ s ∈ l := by
  unfold inF; simp

theorem in_b (b : Bool) (A : Option Addr) (c : Nat) (l : List ByteArray) (s : ByteArray) (n : Nat) (w : World) (hn : n = l.length) (hl : l.length ≤ 9223372036854775807) (h : Rd w A (l.map Value.string)) (hb : inF l s = b) :
    Calls Try.prog 18 #[.slice A n c, .string s] w fun e w' => e = .returned (.bool b) ∧ w = w' := by
  subst hb; exact in_any A c l s n w hn hl h

set_option maxHeartbeats 800000 in
theorem different_any (A : Option Addr) (c : Nat) (l : List ByteArray) (n : Nat) (w : World) (hn : n = l.length) (hc : n ≤ c) (hcm : c ≤ 9223372036854775807) (h : Rd w A (l.map Value.string)) :
    Calls Try.prog 20 #[.slice A n c] w fun e w' => SomeBool (fun b => b = true → l.Nodup) e ∧ Dr w w' := by
  subst hn
  have H := Lib.hid h; clear h
  go_enter Try.func20, Try.ntmps20
  go_wp2
  go_loopw [3] (fun i wr => ∃ k : Nat, k ≤ l.length ∧ i = .int .i64 k ∧ Hid ((l.take k).Nodup) ∧ Dr w wr) (fun i _ => l.length - (intOf i).toNat)
  case atStart => exact ⟨0, Nat.zero_le _, rfl, Lib.hid (by simp), dr0⟩
  case round =>
    obtain ⟨k, hk, rfl, hnd, m, rfl⟩ := hrel
    by_cases hlt : k < l.length
    · have HP : Hid (Rd w A ((l.take k).map Value.string)) := Lib.hid (by rw [List.map_take]; exact H.out.pre k)
      obtain ⟨b, off, rfl, hb, hcell⟩ := H.out.map_at hlt
      have hk0 : (0 : Int) ≤ (k : Int) := by omega
      have hkc : (k : Int) ≤ (c : Int) := by omega
      have hkl : (k : Int) < (l.length : Int) := by omega
      have hlk : k = (l.take k).length := by simp; omega
      have Hlk := Lib.hid hlk; clear hlk
      have hlk9 : (l.take k).length ≤ 9223372036854775807 := by simp; omega
      by_cases he : l[k] ∈ l.take k
      · have hin := (inF_iff (l.take k) l[k]).2 he
        clear he
        go_wp2_with fail
        go_quiet ((first | exact qs1 (in_b _ _ c (l.take k) l[k] k _ Hlk.out hlk9 (by exact HP.out) hin) | exact qs0 (in_b _ _ c (l.take k) l[k] k _ Hlk.out hlk9 (by exact HP.out) hin)))
        go_wp2
        go_ret
        exact ⟨⟨false, rfl, fun e => by cases e⟩, by first | exact dr1 | exact dr2⟩
      · have hin : inF (l.take k) l[k] = false := by rw [← Bool.not_eq_true, inF_iff]; exact he
        have hnd2 : Hid ((l.take (k + 1)).Nodup) := Lib.hid (by
          rw [List.take_succ_eq_append_getElem hlt, List.nodup_append]
          exact ⟨hnd.out, by simp, fun a ha b hb => by simp at hb; subst hb; intro e; exact he (e ▸ ha)⟩)
        clear he
        go_wp2_with fail
        go_quiet ((first | exact qs1 (in_b _ _ c (l.take k) l[k] k _ Hlk.out hlk9 (by exact HP.out) hin) | exact qs0 (in_b _ _ c (l.take k) l[k] k _ Hlk.out hlk9 (by exact HP.out) hin)))
        go_wp2
        exact ⟨⟨k + 1, hlt, by go_num, hnd2, by first | exact dr1 | exact dr2⟩, by simp [intOf]; omega⟩
    · go_wp2
      go_ret
      exact ⟨⟨true, rfl, fun _ => by have := hnd.out; rwa [List.take_of_length_le (by omega)] at this⟩, dr1⟩

set_option maxHeartbeats 800000 in
theorem letters_any (s : ByteArray) (w : World) (hs : s.size ≤ 100) :
    Calls Try.prog 21 #[.string s] w fun e w' => ∃ v : Value, e = .returned v ∧
      w'.ownsRow w.heap.size 9 1 v s.size (((List.range s.size).map fun i => s.extract i (i + 1)).map Value.string) ∧ Below w.heap.size w w' := by
  go_enter Try.func21, Try.ntmps21
  go_wp2
  go_loopw [3, 4] (fun v i wr => ∃ (k : Nat), k ≤ s.size ∧ i = .int .i64 k ∧ Hid (wr.ownsRow w.heap.size 9 1 v k (((List.range k).map fun i => s.extract i (i + 1)).map Value.string)) ∧ Hid (Below w.heap.size w wr)) (fun _ i _ => s.size - (intOf i).toNat)
  case atStart => exact ⟨0, Nat.zero_le _, rfl, World.ownsRow_nil _ _ _ _, Below.refl _ _⟩
  case round =>
    obtain ⟨k, hk, rfl, hown, hbel⟩ := hrel
    by_cases hlt : k < s.size
    · have hsz : w.heap.size ≤ wr.heap.size := hbel.out.size
      go_wp2_with (at_builtin; refine wpList_app1 rfl (.tmp 11) (.tmp 17) 22 rfl Try.underlying22 info_str rfl (by decide) w.heap.size _ k _ _ _ rfl (by simp [Value.oneCell']) rfl rfl (by simp) (by exact hown.out) hsz (by omega) (by omega) ?_; intro v1 w1 hown1 hb1)
      refine ⟨⟨k + 1, hlt, by go_num, ?_, hbel.out.trans hb1⟩, by simp [intOf]; omega⟩
      show w1.ownsRow _ _ _ _ _ _
      rw [List.range_succ]
      simpa using hown1
    · obtain rfl : k = s.size := by omega
      go_wp2
      go_ret
      exact ⟨_, rfl, hown.out, hbel.out⟩

/-- some slices that read as lists -/
def Rds (w : World) (vs : List (Option Addr × Nat × Nat)) (ls : List (List ByteArray)) : Prop :=
  vs.length = ls.length ∧ ∀ i (h : i < vs.length) (h' : i < ls.length), vs[i].2.1 = ls[i].length ∧ Rd w vs[i].1 (ls[i].map Value.string)

set_option maxHeartbeats 800000 in
theorem joined_any (A : Option Addr) (c : Nat) (vs : List (Option Addr × Nat × Nat)) (ls : List (List ByteArray)) (n : Nat) (w : World) (hn : n = vs.length) (hl : ls.length ≤ 100) (h1 : ∀ l ∈ ls, l.length ≤ 1000000)
    (h : Rd w A (vs.map fun v => Value.slice v.1 v.2.1 v.2.2)) (h2 : Rds w vs ls) :
    Calls Try.prog 19 #[.slice A n c] w fun e w' => ∃ v : Value, e = .returned v ∧
      w'.ownsRow w.heap.size 9 1 v ls.flatten.length (ls.flatten.map Value.string) ∧ Below w.heap.size w w' := by
  subst hn
  have H := Lib.hid h; clear h
  have H2 := Lib.hid h2; clear h2
  have H1 := Lib.hid h1; clear h1
  have hvl : vs.length ≤ 100 := by have := H2.out.1; omega
  go_enter Try.func19, Try.ntmps19
  go_wp2
  go_loopw [3, 4] (fun v i wr => ∃ (k : Nat), k ≤ vs.length ∧ i = .int .i64 k ∧ Hid (wr.ownsRow w.heap.size 9 1 v (ls.take k).flatten.length ((ls.take k).flatten.map Value.string)) ∧ (ls.take k).flatten.length ≤ k * 1000000 ∧ Hid (Below w.heap.size w wr)) (fun _ i _ => vs.length - (intOf i).toNat)
  case atStart => exact ⟨0, Nat.zero_le _, rfl, World.ownsRow_nil _ _ _ _, by simp, Below.refl _ _⟩
  case round =>
    obtain ⟨k, hk, rfl, hown, hlen, hbel⟩ := hrel
    by_cases hlt : k < vs.length
    · have hsz : w.heap.size ≤ wr.heap.size := hbel.out.size
      have hlt' : k < ls.length := by have := H2.out.1; omega
      obtain ⟨b, off, rfl, hb, hc0⟩ := H.out.map_at hlt
      have hc := (hbel.out.cell (p := ⟨b, off + k, none⟩) hb).trans hc0
      clear hc0
      obtain ⟨hm, hrd0⟩ := H2.out.2 k hlt hlt'
      obtain ⟨⟨A', n', c'⟩, hv⟩ : ∃ v, vs[k] = v := ⟨_, rfl⟩
      rw [hv] at hc hm hrd0
      simp only at hc hm hrd0
      have Hm := Lib.hid hm; clear hm
      have hrd := Lib.hid (hrd0.below hbel.out); clear hrd0
      have hn' : n' ≤ 1000000 := by rw [Hm.out]; exact H1.out _ (List.getElem_mem _)
      have he : Hid ((ls.take (k + 1)).flatten = (ls.take k).flatten ++ ls[k]) := Lib.hid (by rw [List.take_succ_eq_append_getElem hlt', List.flatten_append, List.flatten_cons, List.flatten_nil, List.append_nil])
      clear hv
      go_wp2_with (at_builtin; refine wpList_appR rfl (.tmp 11) (.tmp 15) 22 rfl Try.underlying22 info_str rfl w.heap.size _ _ _ A' n' c' (ls[k].map Value.string) (str_one _) rfl rfl hown.out hrd.out (by simpa using Hm.out.symm) hsz (by omega) (by omega) ?_; intro v1 w1 hown1 hb1)
      refine ⟨⟨k + 1, hlt, by go_num, ?_, ?_, hbel.out.trans hb1⟩, by simp [intOf]; omega⟩
      · show w1.ownsRow _ _ _ _ _ _
        rw [he.out, List.map_append, List.length_append, ← Hm.out]; exact hown1
      · rw [he.out, List.length_append, ← Hm.out]; omega
    · have he : Hid (ls.take k = ls) := Lib.hid (by rw [List.take_of_length_le (by have := H2.out.1; omega)])
      go_wp2
      go_ret
      have := hown.out
      rw [he.out] at this
      exact ⟨_, rfl, this, hbel.out⟩
end Go.Proofs.Ytkklpmfjbkapiaa
