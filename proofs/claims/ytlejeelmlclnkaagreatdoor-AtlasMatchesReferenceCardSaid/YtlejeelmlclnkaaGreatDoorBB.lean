/- WORDS AND WALKS: strings, objects and tags in memory; lexer.Name. -/
import Derived.Test.YtlejeelmlclnkaaGreatDoorBA
set_option linter.unusedSimpArgs false
set_option linter.unusedVariables false
namespace Go.Proofs.YtlejeelmlclnkaaGreatDoor
open Go.RowKit

abbrev Tx := List UInt8
/-- the string of bytes -/
def mkB (t : List UInt8) : ByteArray := ⟨t.toArray⟩
theorem mkB_list (t : List UInt8) : (mkB t).data.toList = t := by simp [mkB]
theorem mkB_of (s : ByteArray) : mkB s.data.toList = s := by apply ByteArray.ext; simp [mkB]
theorem mkB_inj {a b : List UInt8} (e : mkB a = mkB b) : a = b := by rw [← mkB_list a, ← mkB_list b, e]
theorem mkB_len (t : Tx) : (mkB t).size = t.length := by simp [mkB, ByteArray.size]
theorem mkB_tl (t : Tx) : (mkB t).toList = t := by rw [ByteArray.toList_eq, mkB_list]
theorem clsTab_size : clsTab.size = 256 := by simp [clsTab]
theorem zeroTab_size : Tryz.zeroCells135.size = 256 := by kernel_rfl
theorem clsTab_one : clsTab.all (·.oneCell') = true := Array.all_eq_true_iff_forall_mem.2 (fun v hv => by
  simp only [clsTab, Array.mem_ofFn] at hv
  obtain ⟨i, rfl⟩ := hv
  rfl)
theorem store_tab (w : World) : (storeCells ⟨w.heap.size, 0, none⟩ clsTab.toList).run Tryz.prog (w.alloc (.cells Tryz.zeroCells135 135)) = .ok () (w.alloc (.cells clsTab 135)) :=
  run_storeCells_new w 135 _ _ (by rw [clsTab_size]; kernel_rfl) (by rw [clsTab_size, zeroTab_size]) clsTab_one
theorem tl_get (s : Tx) {k : Nat} (h : k < s.length) : (mkB s)[k]'(by rw [mkB_len]; exact h) = s[k] := by
  show (mkB s).data[k]'_ = _
  simp [mkB]
def okC (i : Nat) (c : UInt8) : Bool := if i = 0 then At.letterB c else At.tailB c
theorem cls_all : ∀ n : Fin 256, (decide (clsF n.val = 3) = At.letterB n.val.toUInt8) ∧ ((decide (clsF n.val = 3) || decide (clsF n.val = 4) || decide (clsF n.val = 5)) = At.tailB n.val.toUInt8) := by decide +kernel
theorem cls_c (c : UInt8) : (decide (clsF c.toNat = 3) = At.letterB c) ∧ ((decide (clsF c.toNat = 3) || decide (clsF c.toNat = 4) || decide (clsF c.toNat = 5)) = At.tailB c) := by
  have := cls_all ⟨c.toNat, c.toNat_lt⟩
  simpa using this
theorem name_iff (s : Tx) : At.nameB s = (s.length != 0 && decide (s.length ≤ 24) && decide (∀ i (h : i < s.length), okC i s[i] = true)) := by
  cases s with
  | nil => rfl
  | cons c r =>
    unfold At.nameB
    rw [Bool.eq_iff_iff]
    simp only [Bool.and_eq_true, List.all_eq_true, decide_eq_true_eq, List.length_cons]
    constructor
    · rintro ⟨⟨h1, h2⟩, h3⟩
      refine ⟨⟨by simp, h3⟩, fun i hi => ?_⟩
      cases i with
      | zero => simpa [okC] using h1
      | succ i =>
        unfold okC
        rw [if_neg (by omega)]
        exact h2 _ (by simp)
    · rintro ⟨⟨_, h3⟩, h⟩
      refine ⟨⟨?_, fun x hx => ?_⟩, h3⟩
      · have := h 0 (by simp); simpa [okC] using this
      · obtain ⟨i, hi, rfl⟩ := List.mem_iff_getElem.1 hx
        have := h (i + 1) (by simpa using hi)
        unfold okC at this
        rw [if_neg (by omega)] at this
        simpa using this
theorem name_true {s : Tx} (h : ∀ i (h : i < s.length), okC i s[i] = true) : At.nameB s = (s.length != 0 && decide (s.length ≤ 24)) := by
  rw [name_iff, decide_eq_true h, Bool.and_true]
theorem name_false {s : Tx} {i : Nat} (h : i < s.length) (hc : okC i s[i] = false) : At.nameB s = false := by
  have hn : ¬ (∀ i (h : i < s.length), okC i s[i] = true) := fun k => by have := k i h; rw [hc] at this; cases this
  rw [name_iff, decide_eq_false hn, Bool.and_false]
set_option maxHeartbeats 4000000 in
set_option maxRecDepth 100000 in
theorem name_any (s : Tx) (w : World) (hs : s.length ≤ 9223372036854775807) :
    Calls Tryz.prog 78 #[.string (mkB s)] w fun e w' => e = .returned (.bool (At.nameB s)) ∧ Below w.heap.size w w' := by
  go_enter Tryz.func78, Tryz.ntmps78
  go_wp2_with fail
  refine (classes_any _).mono ?_
  rintro e w1 ⟨rfl, b1⟩
  have CS := clsTab_size
  have ST := store_tab w1
  have TB := Lib.hid (heap_alloc_new w1 (.cells clsTab 135))
  have ms := mkB_len s
  have tk := mkB_tl s
  have B1 := Lib.hid (b1.alloc b1.size (.cells clsTab 135))
  clear b1
  obtain ⟨n, hn⟩ : ∃ n, s.length = n := ⟨_, rfl⟩
  have HN := Lib.hid hn
  rw [hn] at hs ms
  clear hn
  go_wp2_with fail
  generalize w1.heap.size = g at *
  generalize w1.alloc (.cells clsTab 135) = w2 at *
  clear ST CS
  go_loopw [9] (fun s9 wr => ∃ k : Nat, k ≤ n ∧ s9 = .int .i64 (k : Int) ∧ Hid (∀ i (h : i < s.length), i < k → okC i s[i] = true) ∧ wr = w2) (fun i _ => n - (intOf i).toNat)
  case atStart => exact ⟨0, Nat.zero_le _, rfl, Lib.hid (fun i _ h => absurd h (Nat.not_lt_zero _)), rfl⟩
  case round =>
    obtain ⟨k, hk, rfl, AL, rfl⟩ := hrel
    by_cases hlt : k < n
    · have hkl : k < s.length := by have := HN.out; omega
      have d1 : (k : Int) < (n : Int) := by omega
      have d2 : (0 : Int) ≤ (k : Int) := by omega
      have tg := tl_get s hkl
      have ALn : Hid (okC k s[k] = true → ∀ i (h : i < s.length), i < k + 1 → okC i s[i] = true) := Lib.hid (fun hc i hi hik => by
        rcases Nat.lt_succ_iff_lt_or_eq.1 hik with h1 | h1
        · exact AL.out i hi h1
        · subst h1; exact hc)
      have NF : Hid (okC k s[k] = false → At.nameB s = false) := Lib.hid (name_false hkl)
      have CC := Lib.hid (cls_c s[k])
      have lt := s[k].toNat_lt
      have c0 := (cell_of_row wr g s[k].toNat _ _ _ TB.out).trans (tab_at lt)
      generalize s[k] = c at *
      obtain ⟨q, hq⟩ : ∃ q, clsF c.toNat = q := ⟨_, rfl⟩
      rw [hq] at CC c0
      have KN : Hid (okC k c = if k = 0 then At.letterB c else At.tailB c) := Lib.hid rfl
      generalize okC k c = O at *
      rw [← CC.out.1, ← CC.out.2] at KN
      clear CC hq
      have lt2 : c.toNat < 256 := lt
      have lt3 : (c.toNat : Int) < 256 := by omega
      have lt4 : (0 : Int) ≤ (c.toNat : Int) := by omega
      by_cases q3 : q = 3
      · subst q3
        have A2 := Lib.hid (ALn.out (by rw [KN.out]; simp))
        clear ALn NF KN
        go_wp2_with fail
        exact ⟨⟨k + 1, by omega, by go_num, A2, trivial⟩, by simp [intOf]; omega⟩
      · have e3 : ((q : Int) != 3) = true := by simp; omega
        by_cases k0 : k = 0
        · subst k0
          have N2 := Lib.hid (NF.out (by rw [KN.out]; simp [q3]))
          clear ALn NF KN
          go_wp2_with fail
          go_ret
          exact ⟨by rw [N2.out]; rfl, B1.out⟩
        · have ek : ((k : Int) == 0) = false := by simp; omega
          by_cases q4 : q = 4
          · subst q4
            have A2 := Lib.hid (ALn.out (by rw [KN.out]; simp [k0]))
            clear ALn NF KN
            go_wp2_with fail
            exact ⟨⟨k + 1, by omega, by go_num, A2, trivial⟩, by simp [intOf]; omega⟩
          · have e4 : ((q : Int) != 4) = true := by simp; omega
            by_cases q5 : q = 5
            · subst q5
              have A2 := Lib.hid (ALn.out (by rw [KN.out]; simp [k0]))
              clear ALn NF KN
              go_wp2_with fail
              exact ⟨⟨k + 1, by omega, by go_num, A2, trivial⟩, by simp [intOf]; omega⟩
            · have e5 : ((q : Int) != 5) = true := by simp; omega
              have N2 := Lib.hid (NF.out (by rw [KN.out]; simp [q3, k0, q4, q5]))
              clear ALn NF KN
              go_wp2_with fail
              go_ret
              exact ⟨by rw [N2.out]; rfl, B1.out⟩
    · have d1 : ¬ (k : Int) < (n : Int) := by omega
      have NT := Lib.hid (name_true (s := s) (fun i hi => AL.out i hi (by have := HN.out; omega)))
      rw [HN.out] at NT
      have HE : Hid (n = 0 ↔ s = []) := Lib.hid (by rw [← HN.out]; simp)
      clear TB
      by_cases n0 : s = []
      · have z : n = 0 := HE.out.2 n0
        subst z
        have e0 : (s == []) = true := by rw [n0]; rfl
        clear n0
        go_wp2_with fail
        go_ret
        exact ⟨by rw [NT.out]; rfl, B1.out⟩
      · have z : ¬ n = 0 := fun e => n0 (HE.out.1 e)
        have e0 : (s == []) = false := by simpa using n0
        have N2 : Hid (At.nameB s = decide (n ≤ 24)) := Lib.hid (by rw [NT.out]; simp [z])
        clear n0 NT HE
        by_cases n24 : n ≤ 24
        · have d3 : (n : Int) ≤ 24 := by omega
          go_wp2_with fail
          go_ret
          exact ⟨by rw [N2.out, decide_eq_true n24]; rfl, B1.out⟩
        · have d3 : decide ((n : Int) ≤ 24) = false := by simp; omega
          have d4 : decide (n ≤ 24) = false := by simp; omega
          go_wp2_with fail
          go_ret
          exact ⟨by rw [N2.out, d4]; rfl, B1.out⟩
end Go.Proofs.YtlejeelmlclnkaaGreatDoor
