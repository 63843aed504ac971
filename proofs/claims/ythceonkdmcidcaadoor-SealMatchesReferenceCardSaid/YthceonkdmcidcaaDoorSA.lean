/- WALKS: the chains, starts and nodes of seals. -/
import Derived.Test.YthceonkdmcidcaaDoorQC0
import Derived.Test.YthceonkdmcidcaaDoorSP
set_option linter.unusedSimpArgs false
set_option linter.unusedVariables false
namespace Go.Proofs.YthceonkdmcidcaaDoor
open Go.RowKit

/-- the string of bytes -/
def mkB (t : List UInt8) : ByteArray := ⟨t.toArray⟩
def mkL (l : List (List UInt8)) : List ByteArray := l.map mkB
def sv (l : List (List UInt8)) : List Value := (mkL l).map Value.string
theorem mkB_list (t : List UInt8) : (mkB t).data.toList = t := by simp [mkB]
theorem mkB_size (t : List UInt8) : (mkB t).size = t.length := size_mk t
theorem mkB_of (s : ByteArray) : mkB s.data.toList = s := by apply ByteArray.ext; simp [mkB]
theorem bys_mkL (l : List (List UInt8)) : bys (mkL l) = l := by
  unfold bys mkL
  rw [List.map_map]
  conv => rhs; rw [← List.map_id l]
  exact List.map_congr_left fun t _ => mkB_list t
theorem mkL_len (l : List (List UInt8)) : (mkL l).length = l.length := List.length_map ..
theorem sv_len (l : List (List UInt8)) : (sv l).length = l.length := by unfold sv; rw [List.length_map, mkL_len]
theorem sv_app (l m : List (List UInt8)) : sv (l ++ m) = sv l ++ sv m := by simp [sv, mkL]
theorem sv_one (t : List UInt8) : sv [t] = [.string (mkB t)] := rfl
theorem sv_at {l : List (List UInt8)} {k : Nat} (h : k < l.length) : (sv l)[k]? = some (.string (mkB l[k])) := by simp [sv, mkL, h]
theorem mkB_inj {a b : List UInt8} (e : mkB a = mkB b) : a = b := by rw [← mkB_list a, ← mkB_list b, e]
theorem isD_len {t : List UInt8} (h : Dg.isD t = true) : t.length = 16 := by
  unfold Dg.isD at h; rw [Bool.and_eq_true] at h; exact of_decide_eq_true h.1

theorem of_list_any (A : Option Addr) (n c : Nat) (L : List (List UInt8)) (w : World) (hn : n = L.length) (hlen : L.length ≤ 30) (hs : ∀ t ∈ L, t.length ≤ 300) (ht : Tab w) (h : Rd w A (sv L)) :
    Calls Tryd.prog 62 #[.slice A n c] w fun e w' => e = .returned (.string (mkB (Dg.sumL (Dg.joined L)))) ∧ Below w.heap.size w w' := by
  have := list_any A n c (mkL L) w (by rw [mkL_len]; exact hn) (by rw [mkL_len]; exact hlen) (fun s hs' => by
    obtain ⟨t, ht', rfl⟩ := List.mem_map.1 hs'
    rw [mkB_size]; exact hs t ht') ht h
  rw [bys_mkL] at this
  exact this
set_option maxHeartbeats 400000 in
theorem of_any (A : Option Addr) (n c : Nat) (L : List (List UInt8)) (w : World) (hn : n = L.length) (hlen : L.length ≤ 30) (hs : ∀ t ∈ L, t.length ≤ 300) (ht : Tab w) (h : Rd w A (sv L)) :
    Calls Tryd.prog 41 #[.slice A n c] w fun e w' => e = .returned (.string (mkB (Dg.sumL (Dg.joined L)))) ∧ Below w.heap.size w w' := by
  have LA := Lib.hid (of_list_any A n c L w hn hlen hs ht h)
  clear h hs ht hn
  go_enter Tryd.func41, Tryd.ntmps41
  go_wp2_with fail
  refine LA.out.mono ?_
  rintro e w1 ⟨rfl, hb1⟩
  have B1 := Lib.hid hb1; clear hb1
  go_wp2_with fail
  go_ret
  exact ⟨rfl, B1.out⟩
theorem sumT_any (s : ByteArray) (w : World) (hs : s.size < 9223372036854775807) :
    Calls Tryd.prog 57 #[.string s] w fun e w' => e = .returned (.string (mkB (Dg.sumL s.data.toList))) ∧ Below w.heap.size w w' := sum_any s w hs
theorem chain_rest {k j : Nat} {t u : List UInt8} (h : j < k) (e : Sl.chainF (k - j) u = Sl.chainF k t) : Sl.chainF (k - (j + 1)) (Dg.sumL u) = Sl.chainF k t := by
  rw [← e, show k - j = (k - (j + 1)) + 1 by omega]; rfl
set_option maxHeartbeats 1000000 in
theorem chain_any (t : ByteArray) (k : Nat) (x : Int) (w : World) (hx : x = (k : Int)) (hk : k ≤ 1000) (hs : t.size < 9223372036854775807) :
    Calls Tryd.prog 31 #[.string t, .int .i64 x] w fun e w' => e = .returned (.string (mkB (Sl.chainF k t.data.toList))) ∧ Below w.heap.size w w' := by
  subst hx
  go_enter Tryd.func31, Tryd.ntmps31
  go_wp2_with fail
  go_loopw [0, 6] (fun u i wr => ∃ (j : Nat) (s : ByteArray), j ≤ k ∧ i = .int .i64 j ∧ u = .string s ∧ s.size < 9223372036854775807 ∧ Hid (Sl.chainF (k - j) s.data.toList = Sl.chainF k t.data.toList) ∧ Hid (Below w.heap.size w wr)) (fun _ i _ => k - (intOf i).toNat)
  case atStart => exact ⟨0, t, Nat.zero_le _, rfl, rfl, hs, Lib.hid rfl, Lib.hid (Below.refl _ _)⟩
  case round =>
    obtain ⟨j, s, hj, rfl, rfl, hss, hch, hbl⟩ := hrel
    by_cases hlt : j < k
    · have d1 : decide ((j : Int) < (k : Int)) = true := by simp; omega
      have CR := Lib.hid (chain_rest hlt hch.out)
      go_wp2_with fail
      refine (sumT_any s wr hss).mono ?_
      rintro e w1 ⟨rfl, hb1⟩
      have B1 := Lib.hid (hbl.out.trans (hb1.mono hbl.out.size)); clear hb1
      have z : (mkB (Dg.sumL s.data.toList)).size < 9223372036854775807 := by rw [mkB_size, isD_len (Dg.sumL_isD _)]; decide
      go_wp2_with fail
      exact ⟨⟨j + 1, _, hlt, by go_num, rfl, z, Lib.hid (by rw [mkB_list]; exact CR.out), B1⟩, by simp [intOf]; omega⟩
    · have hjk : j = k := by omega
      subst hjk
      have d1 : decide ((j : Int) < (j : Int)) = false := by simp
      have E : Hid (s = mkB (Sl.chainF j t.data.toList)) := Lib.hid (by rw [← hch.out, Nat.sub_self]; exact (mkB_of s).symm)
      go_wp2_with fail
      go_ret
      exact ⟨ret_str E.out, hbl.out⟩
theorem dec_len4 {n : Nat} (h : n < 10000) : (Dg.dec n).length ≤ 300 := Nat.le_trans (dec_len 4 n h (by decide)) (by decide)
theorem start_list (s : ByteArray) (i k : Nat) : sv [s.data.toList, Dg.dec i, Dg.dec k] = [.string s, .string ⟨(Dg.dec i).toArray⟩, .string ⟨(Dg.dec k).toArray⟩] := by
  simp [sv, mkL, mkB_of]; exact ⟨rfl, rfl⟩
set_option maxHeartbeats 1000000 in
theorem start_any (s : ByteArray) (i k : Nat) (w : World) (hs : s.size ≤ 300) (hi : i < 10000) (hk : k < 10000) (ht : Tab w) :
    Calls Tryd.prog 32 #[.string s, .int .i64 i, .int .i64 k] w fun e w' => e = .returned (.string (mkB (Sl.start s.data.toList i k))) ∧ Below w.heap.size w w' := by
  have HT := Lib.hid ht; clear ht
  have sl := Lib.hid (start_list s i k)
  have zs : s.data.toList.length ≤ 300 := by rw [← Lib.size_eq]; exact hs
  go_enter Tryd.func32, Tryd.ntmps32
  go_wp2_with fail
  refine (itoa_any i w (by omega) HT.out).mono ?_
  rintro e w1 ⟨rfl, hb1⟩
  have B1 := Lib.hid hb1; clear hb1
  go_wp2_with fail
  refine (itoa_any k w1 (by omega) (HT.out.keep B1.out)).mono ?_
  rintro e w2 ⟨rfl, hb2⟩
  have B2 := Lib.hid (B1.out.trans (hb2.mono B1.out.size)); clear hb2 B1
  have B3 : Hid (Below w.heap.size w (w2.alloc (.cells #[.string s, .string ⟨(Dg.dec i).toArray⟩, .string ⟨(Dg.dec k).toArray⟩] 9))) := Lib.hid (B2.out.trans ((Below.refl _ _).alloc B2.out.size _))
  go_wp2_with fail
  refine (of_any _ 3 3 [s.data.toList, Dg.dec i, Dg.dec k] _ rfl (by show 3 ≤ 30; decide) (by
    intro t ht
    simp only [List.mem_cons, List.not_mem_nil, or_false] at ht
    rcases ht with h | h | h
    · rw [h]; exact zs
    · rw [h]; exact dec_len4 hi
    · rw [h]; exact dec_len4 hk) (HT.out.keep B3.out) (by rw [sl.out]; exact Rd.of_row (heap_alloc_new w2 _) (List.prefix_refl _))).mono ?_
  rintro e w3 ⟨rfl, hb3⟩
  have B4 := Lib.hid (B3.out.trans (hb3.mono B3.out.size)); clear hb3
  go_wp2_with fail
  go_ret
  exact ⟨rfl, B4.out⟩
def pairB (a b : List UInt8) (back : Bool) : List UInt8 := if back then Sl.nodeT b a else Sl.nodeT a b
theorem node_list (a b : ByteArray) : sv [Sl.nodeB, a.data.toList, b.data.toList] = [.string ⟨#[110, 111, 100, 101]⟩, .string a, .string b] := by
  simp only [sv, mkL, List.map_cons, List.map_nil, mkB_of]; rfl
theorem node_core (a b : ByteArray) (w : World) (ha : a.size ≤ 300) (hb : b.size ≤ 300) (ht : Tab w) :
    Calls Tryd.prog 41 #[.slice (some ⟨w.heap.size, 0, none⟩) 3 3] (w.alloc (.cells #[.string ⟨#[110, 111, 100, 101]⟩, .string a, .string b] 9)) fun e w' => e = .returned (.string (mkB (Dg.sumL (Sl.nodeT a.data.toList b.data.toList)))) ∧ Below w.heap.size w w' := by
  have hb3 : Below w.heap.size w (w.alloc (.cells #[.string ⟨#[110, 111, 100, 101]⟩, .string a, .string b] 9)) := (Below.refl _ _).alloc (Nat.le_refl _) _
  refine (of_any _ 3 3 [Sl.nodeB, a.data.toList, b.data.toList] _ rfl (by show 3 ≤ 30; decide) (by
    intro t ht
    simp only [List.mem_cons, List.not_mem_nil, or_false] at ht
    rcases ht with h | h | h
    · rw [h]; decide
    · rw [h, ← Lib.size_eq]; exact ha
    · rw [h, ← Lib.size_eq]; exact hb) (ht.keep hb3) (by rw [node_list]; exact Rd.of_row (heap_alloc_new w _) (List.prefix_refl _))).mono ?_
  rintro e w3 ⟨rfl, h3⟩
  exact ⟨rfl, hb3.trans (h3.mono hb3.size)⟩
set_option maxHeartbeats 1000000 in
theorem node_any (a b : ByteArray) (back : Bool) (w : World) (ha : a.size ≤ 300) (hb : b.size ≤ 300) (ht : Tab w) :
    Calls Tryd.prog 42 #[.string a, .string b, .bool back] w fun e w' => e = .returned (.string (mkB (Dg.sumL (pairB a.data.toList b.data.toList back)))) ∧ Below w.heap.size w w' := by
  have HT := Lib.hid ht; clear ht
  cases back with
  | false =>
    go_enter Tryd.func42, Tryd.ntmps42
    go_wp2_with fail
    refine (node_core a b w ha hb HT.out).mono ?_
    rintro e w3 ⟨rfl, hb3⟩
    have B3 := Lib.hid hb3; clear hb3
    go_wp2_with fail
    go_ret
    exact ⟨rfl, B3.out⟩
  | true =>
    go_enter Tryd.func42, Tryd.ntmps42
    go_wp2_with fail
    refine (node_core b a w hb ha HT.out).mono ?_
    rintro e w3 ⟨rfl, hb3⟩
    have B3 := Lib.hid hb3; clear hb3
    go_wp2_with fail
    go_ret
    exact ⟨rfl, B3.out⟩
end Go.Proofs.YthceonkdmcidcaaDoor
