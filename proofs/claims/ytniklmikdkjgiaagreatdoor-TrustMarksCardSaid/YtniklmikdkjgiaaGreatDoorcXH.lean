import Derived.Test.YtniklmikdkjgiaaGreatDoorcXG
import Derived.Test.YtniklmikdkjgiaaGreatDoorWD
set_option linter.all false
set_option maxHeartbeats 16000000
set_option maxRecDepth 100000
namespace Go.Proofs.YtniklmikdkjgiaaGreatDoor
open Go.RowKit
def inB (n lo hi : Int) : Bool := decide (lo ≤ n) && decide (n ≤ hi)
theorem within_any (n lo hi : Int) (w : World) :
    Calls Tryz.prog 72 #[.int .i64 n, .int .i64 lo, .int .i64 hi] w fun e w' => e = .returned (.bool (inB n lo hi)) ∧ Below w.heap.size w w' := by
  have HB := Lib.hid (Below.refl w.heap.size w)
  unfold inB
  go_enter Tryz.func72, Tryz.ntmps72
  cases h : decide (lo ≤ n)
  · go_wp2_with fail
    go_ret
    exact ⟨rfl, HB.out⟩
  · go_wp2_with fail
    go_ret
    exact ⟨rfl, HB.out⟩
theorem short1_any (s : Tx) (w : World) (hs : s.length ≤ 1000000) :
    Calls Tryz.prog 75 #[.string (mkB s)] w fun e w' => e = .returned (.bool (decide (200 < s.length))) ∧ Below w.heap.size w w' := by
  have HB := Lib.hid (Below.refl w.heap.size w)
  have ml := mkB_len s
  have e1 : decide ((200 : Int) < (s.length : Int)) = decide (200 < s.length) := by by_cases h : 200 < s.length <;> simp [h] <;> omega
  clear hs
  go_enter Tryz.func75, Tryz.ntmps75
  go_wp2_with fail
  go_ret
  exact ⟨by simp [e1], HB.out⟩
def shortB (l : List Tx) : Bool := !l.any fun s => decide (200 < s.length)
theorem short_any (A : Option Addr) (n c : Nat) (l : List Tx) (w : World) (hn : n = l.length) (hl : n ≤ 1000000) (hs : ∀ s ∈ l, s.length ≤ 1000000) (h : Rd w A (strsC l)) :
    Calls Tryz.prog 73 #[.slice A n c] w fun e w' => e = .returned (.bool (shortB l)) ∧ Below w.heap.size w w' := by
  have HA := Lib.hid (hasp_any 75 (fun s => decide (200 < s.length)) (enters_of Tryz.func75 (by kernel_rfl) rfl) A n c l w hn hl h (fun s hm u => short1_any s u (hs s hm)))
  unfold shortB
  generalize (l.any fun s => decide (200 < s.length)) = R at *
  clear hn h hs
  go_enter Tryz.func73, Tryz.ntmps73
  go_wp2_with fail
  refine HA.out.mono ?_
  rintro e w1 ⟨rfl, b1⟩
  have B1 := Lib.hid b1
  clear b1 HA
  go_wp2_with fail
  go_ret
  exact ⟨rfl, B1.out⟩
abbrev Pt := Int × Int
def ptL (p : Pt) : List Value := [.int .i64 p.1, .int .i64 p.2]
def ptsL (l : List Pt) : List Value := l.flatMap ptL
theorem pts_at {w : World} {A : Option Addr} {l : List Pt} (h : Rd w A (ptsL l)) {k : Nat} (hk : k < l.length) :
    ∃ b off, A = some ⟨b, off, none⟩ ∧ b < w.heap.size ∧ w.cell? ⟨b, off + k * 2, none⟩ = some (.int .i64 l[k].1) ∧ w.cell? ⟨b, off + k * 2 + 1, none⟩ = some (.int .i64 l[k].2) := by
  obtain ⟨b, off, e, hb, hc⟩ := h (by unfold ptsL; rw [flat_len ptL 2 (fun _ => rfl)]; omega)
  have g : ∀ f u, (ptL l[k])[f]? = some u → w.cell? ⟨b, off + (k * 2 + f), none⟩ = some u := fun f u hu => hc (k * 2 + f) u (flat_get ptL 2 (fun _ => rfl) hk hu)
  have a : ∀ f u, (ptL l[k])[f]? = some u → w.cell? ⟨b, off + k * 2 + f, none⟩ = some u := fun f u hu => by have := g f u hu; rwa [← Nat.add_assoc] at this
  exact ⟨b, off, e, hb, g 0 _ rfl, a 1 _ rfl⟩
def offB (p : Pt) : Bool := !inB p.1 0 1048575 || !inB p.2 0 1048575
abbrev WiAt (bf : Nat) (w : World) : Prop := Stays bf (.cells #[.func (.func 72) #[] #[]] 106 (0, 0)) w
theorem off1_any (bf : Nat) (p : Pt) (w : World) (h : WiAt bf w) :
    Calls Tryz.prog 77 #[.agg #[.int .i64 p.1, .int .i64 p.2], .pointer (some ⟨bf, 0, none⟩)] w fun e w' => e = .returned (.bool (offB p)) ∧ Below w.heap.size w w' := by
  obtain ⟨x, y⟩ := p
  dsimp only
  have BH : Hid (Below w.heap.size w (w.alloc (.cells #[.int .i64 x, .int .i64 y] 88))) := Lib.hid ((Below.refl _ _).alloc (Nat.le_refl _) _)
  obtain ⟨W, hW⟩ : ∃ W, W = w.alloc (.cells #[.int .i64 x, .int .i64 y] 88) := ⟨_, rfl⟩
  obtain ⟨bx, hbx⟩ : ∃ bx, w.heap.size = bx := ⟨_, rfl⟩
  rw [← hW] at BH
  have HX : Hid (W.heap[bx]? = some (.cells #[.int .i64 x, .int .i64 y] 88 (0, 0))) := Lib.hid (by rw [hW, ← hbx]; exact heap_alloc_new w _)
  have HF : Hid (WiAt bf W) := Lib.hid (h.below (by rw [hbx] at BH ⊢; exact BH.out))
  have HZ : bx < W.heap.size := lt_of_block HX.out
  have HY : bf < W.heap.size := lt_of_block HF.out
  have BA : Hid (∀ u, OldB W u → Below w.heap.size w u) := Lib.hid (fun u hu => BH.out.trans (Below.mono hu BH.out.size))
  have k0 : ∀ u, OldB W u → u.cell? ⟨bx, 0, none⟩ = some (.int .i64 x) := fun u hu => by rw [Lib.cell_of_heap ((hu.block bx HZ).trans HX.out)]; rfl
  have k1 : ∀ u, OldB W u → u.cell? ⟨bx, 1, none⟩ = some (.int .i64 y) := fun u hu => by rw [Lib.cell_of_heap ((hu.block bx HZ).trans HX.out)]; rfl
  have kf : ∀ u, OldB W u → u.cell? ⟨bf, 0, none⟩ = some (.func (.func 72) #[] #[]) := fun u hu => by rw [Lib.cell_of_heap ((hu.block bf HY).trans HF.out)]; rfl
  have SW : OldB W W := Below.refl _ _
  have W1 := Lib.hid (fun u => within_any x 0 1048575 u)
  have W2 := Lib.hid (fun u => within_any y 0 1048575 u)
  have PM : Hid (offB (x, y) = (!inB x 0 1048575 || !inB y 0 1048575)) := Lib.hid rfl
  generalize offB (x, y) = R at *
  generalize inB x 0 1048575 = i1 at *
  generalize inB y 0 1048575 = i2 at *
  clear h HZ HY
  go_enter Tryz.func77, Tryz.ntmps77
  go_upto_region 1 with fail
  try rw [hbx]
  rw [← hW]
  clear hW
  go_wp2_with fail
  refine (W1.out _).mono ?_
  rintro e u1 ⟨rfl, d1⟩
  have O1 : OldB W u1 := d1
  clear d1 SW
  cases i1
  · have RF : Hid (R = true) := Lib.hid (by rw [PM.out]; rfl)
    go_wp2_with fail
    go_ret
    exact ⟨by rw [RF.out]; rfl, BA.out _ O1⟩
  · go_wp2_with fail
    refine (W2.out _).mono ?_
    rintro e u2 ⟨rfl, d2⟩
    have O2 : OldB W u2 := O1.then d2
    clear d2 O1
    go_wp2_with fail
    go_ret
    exact ⟨by rw [PM.out]; rfl, BA.out _ O2⟩
theorem idxpt_any (bf : Nat) (A : Option Addr) (n c : Nat) (l : List Pt) (w : World) (hn : n = l.length) (hl : n ≤ 1000000) (h : Rd w A (ptsL l)) (hf : WiAt bf w) :
    Calls Tryz.prog 118 #[.slice A n c, .func (.func 77) #[] #[.pointer (some ⟨bf, 0, none⟩)]] w fun e w' => (∃ i : Int, e = .returned (.int .i64 i) ∧ decide (0 ≤ i) = l.any offB) ∧ Below w.heap.size w w' := by
  have H := Lib.hid h
  have HN := Lib.hid hn
  have HF := Lib.hid hf
  obtain ⟨R, hR⟩ : ∃ R, l.any offB = R := ⟨_, rfl⟩
  have ST : Hid (R = (l.drop 0).any offB) := Lib.hid hR.symm
  have HB : Hid (Below w.heap.size w w) := Lib.hid (Below.refl _ _)
  rw [hR]
  clear hR h hn hf
  go_enter Tryz.func118, Tryz.ntmps118
  go_wp2_with fail
  go_loopw [8] (fun s8 wr => ∃ k : Nat, k ≤ n ∧ s8 = .int .i64 (k : Int) ∧ Hid (R = (l.drop k).any offB) ∧ Hid (Below w.heap.size w wr)) (fun i _ => n - (intOf i).toNat)
  case atStart => exact ⟨0, Nat.zero_le _, rfl, ST, HB⟩
  case round =>
    clear ST HB
    obtain ⟨k, hkn, rfl, RK, BL⟩ := hrel
    by_cases hlt : k < n
    · have hkl : k < l.length := by rw [← HN.out]; exact hlt
      have d1 : (k : Int) < (n : Int) := by omega
      have d2 : (0 : Int) ≤ (k : Int) := by omega
      obtain ⟨b, off, rfl, hbz, c0, c1⟩ := pts_at (H.out.below BL.out) hkl
      have RK2 : Hid (R = (offB l[k] || (l.drop (k + 1)).any offB)) := Lib.hid (by rw [RK.out, List.drop_eq_getElem_cons hkl, List.any_cons])
      have CS := Lib.hid (off1_any bf l[k] wr (HF.out.below BL.out))
      generalize l[k] = s at *
      generalize offB s = os at *
      go_wp2_with fail
      refine CS.out.mono ?_
      rintro e w1 ⟨rfl, b1⟩
      have BL2 := Lib.hid (BL.out.trans (b1.mono BL.out.size))
      clear b1 CS RK c0 c1
      cases os
      · have RK3 : Hid (R = (l.drop (k + 1)).any offB) := Lib.hid (by rw [RK2.out]; rfl)
        clear RK2
        go_wp2_with fail
        exact ⟨⟨k + 1, by omega, by go_num, RK3, BL2⟩, by simp [intOf]; omega⟩
      · have RT : Hid (R = true) := Lib.hid (by rw [RK2.out]; rfl)
        go_wp2_with fail
        go_ret
        exact ⟨⟨(k : Int), rfl, by rw [RT.out, decide_eq_true d2]⟩, BL2.out⟩
    · have d1 : ¬ (k : Int) < (n : Int) := by omega
      have RF : Hid (R = false) := Lib.hid (by rw [RK.out, List.drop_eq_nil_of_le (by rw [← HN.out]; omega)]; rfl)
      go_wp2_with fail
      go_ret
      exact ⟨⟨-1, rfl, by rw [RF.out]; rfl⟩, BL.out⟩
theorem haspt_any (bf : Nat) (A : Option Addr) (n c : Nat) (l : List Pt) (w : World) (hn : n = l.length) (hl : n ≤ 1000000) (h : Rd w A (ptsL l)) (hf : WiAt bf w) :
    Calls Tryz.prog 76 #[.slice A n c, .func (.func 77) #[] #[.pointer (some ⟨bf, 0, none⟩)]] w fun e w' => e = .returned (.bool (l.any offB)) ∧ Below w.heap.size w w' := by
  have IX := Lib.hid (idxpt_any bf A n c l w hn hl h hf)
  generalize l.any offB = R at *
  clear hn h hf
  go_enter Tryz.func76, Tryz.ntmps76
  go_wp2_with fail
  refine IX.out.mono ?_
  rintro e w1 ⟨⟨i, rfl, hi⟩, bt⟩
  have BT := Lib.hid bt
  clear bt IX
  cases R
  · go_wp2_with fail
    go_ret
    exact ⟨rfl, BT.out⟩
  · go_wp2_with fail
    go_ret
    exact ⟨rfl, BT.out⟩
theorem isnan_any (s : Tx) (w : World) : Calls Tryz.prog 145 #[.string (mkB s)] w fun e w' => e = .returned (.bool false) ∧ w' = w := by
  have tl := mkB_tl s
  go_enter Tryz.func145, Tryz.ntmps145
  go_wp2_with fail
  go_ret
  exact ⟨by simp, rfl⟩
theorem less_any (a b : Tx) (w : World) : Calls Tryz.prog 120 #[.string (mkB a), .string (mkB b)] w fun e w' => e = .returned (.bool (At.lt a b)) ∧ w' = w := by
  have ta := mkB_tl a
  have tb := mkB_tl b
  have NA := Lib.hid (fun u => isnan_any a u)
  have PM : Hid (At.lt a b = Op.bytesLess a b) := Lib.hid rfl
  go_enter Tryz.func120, Tryz.ntmps120
  go_wp2_with fail
  refine (NA.out _).mono ?_
  rintro e u1 ⟨rfl, rfl⟩
  go_wp2_with fail
  go_ret
  exact ⟨by rw [PM.out]; simp, rfl⟩
def srtUp (l : List Tx) (k : Nat) : Bool := (List.range k).all fun i => !At.lt (l.getD (i + 1) []) (l.getD i [])
def sortedT (l : List Tx) : Bool := srtUp l (l.length - 1)
theorem srtUp_succ (l : List Tx) (k : Nat) : srtUp l (k + 1) = (srtUp l k && !At.lt (l.getD (k + 1) []) (l.getD k [])) := by
  unfold srtUp; rw [List.range_succ, List.all_append]; simp
theorem sorted_any (A : Option Addr) (n c : Nat) (l : List Tx) (w : World) (hn : n = l.length) (hl : n ≤ 1000000) (h : Rd w A (strsC l)) :
    Calls Tryz.prog 79 #[.slice A n c] w fun e w' => e = .returned (.bool (sortedT l)) ∧ Below w.heap.size w w' := by
  have H := Lib.hid h
  have HN := Lib.hid hn
  have LA := Lib.hid less_any
  obtain ⟨R, hR⟩ : ∃ R, sortedT l = R := ⟨_, rfl⟩
  have ST : Hid (R = srtUp l (n - 1)) := Lib.hid (by rw [← hR, hn]; rfl)
  have HB : Hid (Below w.heap.size w w) := Lib.hid (Below.refl _ _)
  rw [hR]
  clear hR h hn
  go_enter Tryz.func79, Tryz.ntmps79
  have k8 : IntKind.i64.wrap ((n : Int) - 1) = (n : Int) - 1 := IntWalk.i64_in _ (by omega)
  go_wp2_with fail
  go_loopw [3] (fun s3 wr => ∃ i : Int, -1 ≤ i ∧ i < (n : Int) ∧ s3 = .int .i64 i ∧ Hid (R = srtUp l i.toNat) ∧ Hid (Below w.heap.size w wr)) (fun i _ => (intOf i + 1).toNat)
  case atStart => exact ⟨(n : Int) - 1, by omega, by omega, rfl, Lib.hid (by rw [ST.out]; congr 1; omega), HB⟩
  case round =>
    clear ST HB k8
    obtain ⟨i, hi1, hi2, rfl, RK, BL⟩ := hrel
    by_cases hp : 0 < i
    · obtain ⟨j, hj⟩ : ∃ j : Nat, i = (j : Int) + 1 := ⟨(i - 1).toNat, by omega⟩
      obtain ⟨k, hk⟩ : ∃ k : Nat, k = j + 1 := ⟨_, rfl⟩
      obtain rfl : i = (k : Int) := by omega
      have hkn : k < l.length := by rw [← HN.out]; omega
      have hjn : j < l.length := by rw [← HN.out]; omega
      obtain ⟨b, off, rfl, hbz, ck⟩ := strs_at (H.out.below BL.out) hkn
      obtain ⟨b', off', e', -, cj⟩ := strs_at (H.out.below BL.out) hjn
      obtain ⟨rfl, rfl⟩ : b = b' ∧ off = off' := by injection e' with e'; injection e' with e1 e2; exact ⟨e1, e2⟩
      have RK2 : Hid (R = (srtUp l j && !At.lt l[k] l[j])) := Lib.hid (by
        rw [RK.out, show (k : Int).toNat = j + 1 by omega, srtUp_succ, List.getD_eq_getElem?_getD, List.getD_eq_getElem?_getD, ← hk, List.getElem?_eq_getElem hkn, List.getElem?_eq_getElem hjn]; rfl)
      have d0 : (0 : Int) < (k : Int) := hp
      have d1 : (k : Int) < (n : Int) := hi2
      have d2 : (0 : Int) ≤ (k : Int) := by omega
      have d3 : (j : Int) < (n : Int) := by omega
      have d4 : (0 : Int) ≤ (j : Int) := by omega
      have kj : IntKind.i64.wrap ((k : Int) - 1) = (j : Int) := by rw [show (k : Int) - 1 = (j : Int) by omega]; exact IntWalk.i64_in _ (by omega)
      have KJ := Lib.hid hk
      have LL := Lib.hid (fun u => less_any l[k] l[j] u)
      have c1 : ∀ u, OldB wr u → u.cell? ⟨b, off + k, none⟩ = some (.string (mkB l[k])) := fun u hu => by
        rw [← ck]; exact Below.cell hu hbz
      have c2 : ∀ u, OldB wr u → u.cell? ⟨b, off + j, none⟩ = some (.string (mkB l[j])) := fun u hu => by
        rw [← cj]; exact Below.cell hu hbz
      generalize l[k] = x at *
      generalize l[j] = y at *
      clear hj hk RK ck cj hi1 hi2 hp e'
      go_upto_region 4 with fail
      (refine wp_region_noPanic ?_; refine wp_region_held_drew (S := (OldB wr)) (by kernel_rfl) ?_ (fun hHeld => ?_); exact Below.drew (Below.refl _ _))
      (refine tkW 0 ?_; try simp only [gmS])
      (refine tkW 1 ?_; try simp only [gmS])
      (refine tkW 2 ?_; try simp only [gmS])
      (refine tkW 3 ?_; try simp only [gmS])
      (refine tkW 4 ?_; try simp only [gmS])
      (refine tkW 5 ?_; try simp only [gmS])
      (refine tkW 6 ?_; try simp only [gmS])
      (refine tkW 7 ?_; try simp only [gmS])
      (refine tkW 8 ?_; try simp only [gmS])
      (refine rdW 9 (fun K hK => ?_))
      go_simp
      refine (LL.out _).mono ?_
      rintro e u1 ⟨rfl, rfl⟩
      (refine hK.out _ _ hHeld (fun hHeld2 => ?_); clear hK K hHeld; have hHeld := hHeld2; clear hHeld2; try simp only [gmS])
      have BL2 := Lib.hid (BL.out.trans (Below.mono (show Below _ _ _ from hHeld) BL.out.size))
      (refine wpAnyH_done (by kernel_rfl) ?_ _; refine NoPanic.normal ?_)
      cases hlt : At.lt x y
      · have RK3 : Hid (R = srtUp l j) := Lib.hid (by rw [RK2.out, hlt]; simp)
        go_wp2_with fail
        exact ⟨⟨(j : Int), by omega, by omega, rfl, RK3, BL2⟩, by have := KJ.out; simp [intOf]; omega⟩
      · have RF : Hid (R = false) := Lib.hid (by rw [RK2.out, hlt]; simp)
        go_wp2_with fail
        go_ret
        exact ⟨by rw [RF.out]; rfl, BL2.out⟩
    · have RT : Hid (R = true) := Lib.hid (by rw [RK.out, show i.toNat = 0 by omega]; rfl)
      have d0 : ¬ (0 : Int) < i := hp
      go_wp2_with fail
      go_ret
      exact ⟨by rw [RT.out]; rfl, BL.out⟩
end Go.Proofs.YtniklmikdkjgiaaGreatDoor
namespace Go.Proofs.YtniklmikdkjgiaaGreatDoor
open Go.RowKit Go.Lib
theorem clone_str (A : Option Addr) (n c : Nat) (l : List Tx) (w : World) (hn : n = l.length) (hl : n ≤ 1000000) (h : Rd w A (strsC l)) :
    Calls Tryz.prog 81 #[.slice A n c] w fun e w' => ∃ v, e = .returned v ∧ w'.ownsRow w.heap.size 9 1 v n (strsC l) ∧ Below w.heap.size w w' := by
  rcases Nat.eq_zero_or_pos n with h0 | hp
  · have e0 : l = [] := List.eq_nil_of_length_eq_zero (by omega)
    subst e0
    subst h0
    cases A with
    | none =>
      refine (Tryz.slices_Clone_string_nil 0 c w).mono ?_
      rintro e w' ⟨rfl, rfl⟩
      exact ⟨_, rfl, World.ownsRow_nil _ _ _ _, Below.refl _ _⟩
    | some a =>
      refine (Tryz.slices_Clone_string_zero a c w).mono ?_
      rintro e w' ⟨v, rfl, ho, -, hb⟩
      exact ⟨v, rfl, ho, hb⟩
  · obtain ⟨b, off, rfl, hb, -⟩ := strs_at h (k := 0) (by omega)
    have hc : ∀ j, j < (l.map mkB).length → w.cell? ⟨b, off + j, none⟩ = some (.string ((l.map mkB).getD j ByteArray.empty)) := fun j hj => by
      rw [List.length_map] at hj
      obtain ⟨b', off', e', -, cj⟩ := strs_at h hj
      obtain ⟨rfl, rfl⟩ : b = b' ∧ off = off' := by injection e' with e'; injection e' with e1 e2; exact ⟨e1, e2⟩
      rw [cj, List.getD_eq_getElem?_getD, List.getElem?_map, List.getElem?_eq_getElem hj]; rfl
    refine (Tryz.slices_Clone_string b off n c (l.map mkB) w (by rw [List.length_map]; omega) (by omega) hc).mono ?_
    rintro e w' ⟨v, rfl, ho, -, hb⟩
    refine ⟨v, rfl, ?_, hb⟩
    rw [List.take_of_length_le (by rw [List.length_map]; omega), List.map_map] at ho
    exact ho
theorem compact_str (B n : Nat) (v : Value) (l : List Tx) (w : World) (hn : n = l.length) (hl : n ≤ 1000000) (h : w.ownsRow B 9 1 v n (strsC l)) :
    Calls Tryz.prog 80 #[v] w fun e w' => ∃ A c, e = .returned (.slice A (Lib.compact l).length c) ∧ Below B w w' := by
  rcases Nat.eq_zero_or_pos n with h0 | hp
  · have e0 : l = [] := List.eq_nil_of_length_eq_zero (by omega)
    subst e0
    subst h0
    obtain ⟨A, c, rfl, -, -⟩ := own_slG h
    refine (Tryz.slices_Compact_string_empty A c w).mono ?_
    rintro e w' ⟨rfl, rfl⟩
    exact ⟨A, c, rfl, Below.refl _ _⟩
  · rcases h.2 with ⟨-, h0⟩ | ⟨g, cap, cur, rfl, hg, hb, hnc, hcm, -, -⟩
    · omega
    have hr := own_rdG h
    have hc : ∀ i, i < n → w.cell? ⟨g, 0 + i, none⟩ = some (.string (mkB (l.getD i []))) := fun i hi => by
      have hi' : i < l.length := by omega
      obtain ⟨b', off', e', -, cj⟩ := strs_at hr hi'
      obtain ⟨rfl, rfl⟩ : g = b' ∧ 0 = off' := by injection e' with e'; injection e' with e1 e2; exact ⟨e1, e2⟩
      rw [cj, List.getD_eq_getElem?_getD, List.getElem?_eq_getElem hi']; rfl
    have es : Lib.strsOf (fun i => mkB (l.getD i [])) n = l := by
      unfold Lib.strsOf
      apply List.ext_getElem
      · simp [hn]
      · intro i h1 h2
        simp [mkB_list, List.getElem?_eq_getElem h2]
    refine (Tryz.slices_Compact_string_cells g 0 n cap (fun i => mkB (l.getD i [])) w (by omega) hnc hc (fun j _ => free_blk hb _)).mono ?_
    rintro e w' ⟨rfl, q, rfl⟩
    rw [es]
    exact ⟨_, _, rfl, below_setCells (w' := w) g _ 0 _ (belowNN (Below.refl _ _) q) hg⟩
def incB (l : List Tx) : Bool := sortedT l && decide ((Lib.compact l).length = l.length)
structure Pr where
  name : Tx
  reason : Tx
  sources : List Tx
  trace : List Pt
  sla : Se
structure Rc where
  kind : Int
  author : Int
  number : Int
  clock : Int
  branch : Tx
  parents : List Tx
  edits : List Ed
  target : Tx
  yes : Bool
  order : Int
  frm : Tx
  sla : Se
  priv : Pr
structure RV where
  kind : Int
  author : Int
  number : Int
  clock : Int
  branch : Tx
  parents : List Tx
  pav : Value
  edits : List EV
  edv : Value
  target : Tx
  yes : Bool
  order : Int
  frm : Tx
  sla : SlV
  name : Tx
  reason : Tx
  sources : List Tx
  sov : Value
  trace : List Pt
  trv : Value
  pseal : SlV
def RV.c (r : RV) : Rc := ⟨r.kind, r.author, r.number, r.clock, r.branch, r.parents, edsC r.edits, r.target, r.yes, r.order, r.frm, r.sla.c, ⟨r.name, r.reason, r.sources, r.trace, r.pseal.c⟩⟩
def rvL (r : RV) : List Value := [.int .i64 r.kind, .int .i64 r.author, .int .i64 r.number, .int .i64 r.clock, .string (mkB r.branch), r.pav, r.edv, .string (mkB r.target), .bool r.yes, .int .i64 r.order, .string (mkB r.frm), .int .i64 r.sla.index, r.sla.sv, r.sla.pv, .string (mkB r.name), .string (mkB r.reason), r.sov, r.trv, .int .i64 r.pseal.index, r.pseal.sv, r.pseal.pv]
def rvA (r : RV) : Value := .agg (rvL r).toArray
structure RvIs (w : World) (r : RV) : Prop where
  pa : SlIs w r.pav r.parents.length (strsC r.parents)
  ed : ∃ A c, r.edv = .slice A r.edits.length c ∧ Es w A r.edits
  sl : SlvIs w r.sla
  so : SlIs w r.sov r.sources.length (strsC r.sources)
  tr : SlIs w r.trv r.trace.length (ptsL r.trace)
  ps : SlvIs w r.pseal
theorem RvIs.below {w w' : World} {r : RV} (h : RvIs w r) (hb : Below w.heap.size w w') : RvIs w' r := ⟨h.pa.below hb, by obtain ⟨A, c, e, he⟩ := h.ed; exact ⟨A, c, e, he.below hb⟩, h.sl.below hb, h.so.below hb, h.tr.below hb, h.ps.below hb⟩
structure RcSz (c : Rc) : Prop where
  branch : c.branch.length ≤ 1000000
  target : c.target.length ≤ 1000000
  frm : c.frm.length ≤ 1000000
  name : c.priv.name.length ≤ 1000000
  reason : c.priv.reason.length ≤ 1000000
  parents : c.parents.length ≤ 1000000
  parent : ∀ s ∈ c.parents, s.length ≤ 1000000
  sources : c.priv.sources.length ≤ 1000000
  source : ∀ s ∈ c.priv.sources, s.length ≤ 1000000
  trace : c.priv.trace.length ≤ 1000000
  sla : SeSz c.sla
  pseal : SeSz c.priv.sla
def finR (r : Rc) (t : Tx) (y : Bool) (o : Int) (f : Tx) (ed need : Bool) : Bool :=
  (r.target == t) && (r.yes == y) && (r.order == o) && (r.frm == f) && (decide (0 < r.edits.length) == ed) && (!need || Dg.isD t)
def kindR (r : Rc) : Bool :=
  if r.kind = 1 then finR r [] false 0 [] true false
  else if r.kind = 2 then finR r r.target r.yes 0 [] false true
  else if r.kind = 3 then inB r.order 1 4 && finR r r.target false r.order [] (r.order == 3) true
  else if r.kind = 4 then At.nameB r.frm && !(r.frm == r.branch) && finR r [] false 0 r.frm false false
  else if r.kind = 5 then finR r [] false 0 [] false false
  else false
def validR (r : Rc) : Bool :=
  !(r.priv.trace.any offB || !shortB [r.priv.name, r.priv.reason] || !shortB r.priv.sources || decide (16 < r.priv.sources.length) || decide (200 < r.priv.trace.length) || !formedS r.priv.sla || !formedS r.sla)
  && !(!inB r.author 0 59 || !inB r.number 1 128 || !inB r.clock 1 1000000 || !At.nameB r.branch || decide (16 < r.parents.length) || !r.parents.all Dg.isD || !incB r.parents)
  && (rtextF r.edits).2 && kindR r
end Go.Proofs.YtniklmikdkjgiaaGreatDoor
