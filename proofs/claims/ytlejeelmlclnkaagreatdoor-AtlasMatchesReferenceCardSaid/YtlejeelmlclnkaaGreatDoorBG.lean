/- WALKS: slices.IndexFunc, slices.ContainsFunc at strings with the closure of object.Valid. -/
import Derived.Test.YtlejeelmlclnkaaGreatDoorBF
set_option linter.unusedSimpArgs false
set_option linter.unusedVariables false
namespace Go.Proofs.YtlejeelmlclnkaaGreatDoor
open Go.RowKit Go.Maps Go.ChangeMaps Go.MapKept Go.WideShapes Go.WideMaps

theorem refsFrom_drop (kind : Int) (last : Tx) (seen : List Tx) (l : List Tx) {k : Nat} (h : k < l.length) :
    At.refsFrom kind last seen (l.drop k) = (!wrongB kind last seen l[k] && At.refsFrom kind l[k] (l[k] :: seen) (l.drop (k + 1))) := by
  rw [List.drop_eq_getElem_cons h, At.refsFrom]
  unfold wrongB
  generalize (decide (kind = 2) && decide (l[k] = last)) = a
  generalize (decide (kind = 3) && decide (l[k] ∈ seen)) = b
  generalize At.nameB l[k] = c
  cases a <;> cases b <;> cases c <;> rfl
def IdxSt (w0 w : World) (bl bm : Nat) (R : Bool) (e : Ending) (w' : World) : Prop :=
  (∃ i : Int, e = .returned (.int .i64 i) ∧ decide (0 ≤ i) = !R) ∧ But (fun b => b = bl ∨ b = bm) w w'
structure WrR (w0 w wr : World) (bo bl bs bm : Nat) (o : RO) (R : Bool) (l : List Tx) (k n0 : Nat) : Prop where
  st : ∃ last seen nk, Wr wr bo bl bs bm o last seen nk ∧ nk ≤ n0 + k ∧ R = At.refsFrom o.c.kind last seen (l.drop k)
  bt : But (fun b => b = bl ∨ b = bm) w wr
  bw : Below w0.heap.size w0 wr
set_option maxHeartbeats 2000000 in
set_option maxRecDepth 100000 in
theorem idxs_any (A : Option Addr) (n c : Nat) (l : List Tx) (bo bl bs bm : Nat) (o : RO) (last : Tx) (seen : List Tx) (nk : Nat) (w0 w : World) (hn : n = l.length) (hl : n ≤ 100000) (hs : ∀ s ∈ l, s.length ≤ 1000000) (h : Rd w0 A (strsC l))
    (hw : Wr w bo bl bs bm o last seen nk) (hk : nk ≤ 100000) (hb : Below w0.heap.size w0 w) (h1 : w0.heap.size ≤ bl) (h2 : w0.heap.size ≤ bm) :
    Calls Tryz.prog 114 #[.slice A n c, .func (.func 81) #[] #[.pointer (some ⟨bo, 0, none⟩), .pointer (some ⟨bl, 0, none⟩), .pointer (some ⟨bs, 0, none⟩)]] w (IdxSt w0 w bl bm (At.refsFrom o.c.kind last seen l)) := by
  have H := Lib.hid h
  have HN := Lib.hid hn
  have HS := Lib.hid hs
  have H12 := Lib.hid (And.intro h1 h2)
  obtain ⟨R, hR⟩ : ∃ R, At.refsFrom o.c.kind last seen l = R := ⟨_, rfl⟩
  have ST : Hid (WrR w0 w w bo bl bs bm o R l 0 nk) := Lib.hid ⟨⟨last, seen, nk, hw, by omega, hR.symm⟩, But.refl _ _, hb⟩
  rw [hR]
  clear hR h hn hs hw hb h1 h2
  go_enter Tryz.func114, Tryz.ntmps114
  go_wp2_with fail
  go_loopw [8] (fun s8 wr => ∃ k : Nat, k ≤ n ∧ s8 = .int .i64 (k : Int) ∧ Hid (WrR w0 w wr bo bl bs bm o R l k nk)) (fun i _ => n - (intOf i).toNat)
  case atStart => exact ⟨0, Nat.zero_le _, rfl, ST⟩
  case round =>
    clear ST
    obtain ⟨k, hkn, rfl, WR⟩ := hrel
    by_cases hlt : k < n
    · have hkl : k < l.length := by rw [← HN.out]; exact hlt
      have d1 : (k : Int) < (n : Int) := by omega
      have d2 : (0 : Int) ≤ (k : Int) := by omega
      obtain ⟨lastk, seenk, nkk, hst, hnk, hRk⟩ := WR.out.st
      obtain ⟨b, off, rfl, hbz, c0⟩ := strs_at (H.out.below WR.out.bw) hkl
      rw [refsFrom_drop _ _ _ _ hkl] at hRk
      have WC := Lib.hid (wrong_any bo bl bs bm o lastk l[k] seenk nkk wr hst (HS.out _ (List.getElem_mem hkl)) (by omega))
      have RK := Lib.hid hRk
      have NK := Lib.hid hnk
      generalize l[k] = s at *
      clear hst hRk hnk
      go_wp2_with fail
      refine WC.out.mono ?_
      rintro e w1 ⟨rfl, ⟨nk', hnk', hW⟩, hbt⟩
      have BT := Lib.hid (WR.out.bt.trans hbt)
      have BW := Lib.hid (WR.out.bw.trans (hbt.below (B := w0.heap.size) WR.out.bw.size (fun b hb => by rcases hb with rfl | rfl; exact H12.out.1; exact H12.out.2)))
      have HW := Lib.hid hW
      have NK2 : Hid (nk' ≤ nk + (k + 1)) := Lib.hid (by have := NK.out; omega)
      clear hbt hW hnk' WC NK WR
      cases hwr : wrongB o.c.kind lastk seenk s
      · rw [hwr] at RK
        have ST2 : Hid (WrR w0 w w1 bo bl bs bm o R l (k + 1) nk) := Lib.hid ⟨⟨s, s :: seenk, nk', HW.out, NK2.out, by rw [RK.out]; rfl⟩, BT.out, BW.out⟩
        clear RK BT BW HW NK2
        go_wp2_with fail
        exact ⟨⟨k + 1, by omega, by go_num, ST2⟩, by simp [intOf]; omega⟩
      · have RF : Hid (R = false) := Lib.hid (by rw [RK.out, hwr]; rfl)
        go_wp2_with fail
        go_ret
        exact ⟨⟨(k : Int), rfl, by rw [RF.out, decide_eq_true d2]; rfl⟩, BT.out⟩
    · have d1 : ¬ (k : Int) < (n : Int) := by omega
      have RT : Hid (R = true) := Lib.hid (by
        obtain ⟨lastk, seenk, nkk, _, _, hRk⟩ := WR.out.st
        rw [hRk, List.drop_eq_nil_of_le (by rw [← HN.out]; omega)]; rfl)
      have BT := Lib.hid WR.out.bt
      clear WR
      go_wp2_with fail
      go_ret
      exact ⟨⟨-1, rfl, by rw [RT.out]; rfl⟩, BT.out⟩
def HasSt (w0 w : World) (bl bm : Nat) (R : Bool) (e : Ending) (w' : World) : Prop := e = .returned (.bool (!R)) ∧ But (fun b => b = bl ∨ b = bm) w w'
set_option maxHeartbeats 2000000 in
theorem hass_any (A : Option Addr) (n c : Nat) (l : List Tx) (bo bl bs bm : Nat) (o : RO) (last : Tx) (seen : List Tx) (nk : Nat) (w0 w : World) (hn : n = l.length) (hl : n ≤ 100000) (hs : ∀ s ∈ l, s.length ≤ 1000000) (h : Rd w0 A (strsC l))
    (hw : Wr w bo bl bs bm o last seen nk) (hk : nk ≤ 100000) (hb : Below w0.heap.size w0 w) (h1 : w0.heap.size ≤ bl) (h2 : w0.heap.size ≤ bm) :
    Calls Tryz.prog 82 #[.slice A n c, .func (.func 81) #[] #[.pointer (some ⟨bo, 0, none⟩), .pointer (some ⟨bl, 0, none⟩), .pointer (some ⟨bs, 0, none⟩)]] w (HasSt w0 w bl bm (At.refsFrom o.c.kind last seen l)) := by
  have IX := Lib.hid (idxs_any A n c l bo bl bs bm o last seen nk w0 w hn hl hs h hw hk hb h1 h2)
  generalize At.refsFrom o.c.kind last seen l = R at *
  clear hn hs h hw hk hb h1 h2
  go_enter Tryz.func82, Tryz.ntmps82
  go_wp2_with fail
  refine IX.out.mono ?_
  rintro e w1 ⟨⟨i, rfl, hi⟩, bt⟩
  have BT := Lib.hid bt
  clear bt IX
  cases R
  · have q : decide (0 ≤ i) = true := hi
    clear hi
    go_wp2_with fail
    go_ret
    exact ⟨rfl, BT.out⟩
  · have q : decide (0 ≤ i) = false := hi
    clear hi
    go_wp2_with fail
    go_ret
    exact ⟨rfl, BT.out⟩
end Go.Proofs.YtlejeelmlclnkaaGreatDoor
