import Derived.Test.YtniklmikdkjgiaaGreatDoorCTA
import Derived.Test.YtniklmikdkjgiaaGreatDoorCXI
set_option linter.all false
set_option maxHeartbeats 16000000
set_option maxRecDepth 100000
namespace Go.Proofs.YtniklmikdkjgiaaGreatDoor
open Go.RowKit
theorem rrword_any (k : Int) (w : World) :
  Calls Tryz.prog 208 #[.int .i64 k] w fun e w' => e = .returned (.string (mkB (wordF k))) ∧ Below w.heap.size w w' := by
 by_cases h0 : k < 1
 ·have WF : Hid (wordF k = []) := Lib.hid (word_out (by unfold At.kindB; rw [decide_eq_false (show ¬ 1 ≤ k by omega)]; rfl))
  have g1 : decide (k < 1) = true := by simpa using h0
  clear h0
  go_enter Tryz.func208, Tryz.ntmps208
  go_wp2_with fail
  go_ret
  exact ⟨by rw [WF.out]; rfl, (Below.refl _ _).alloc (Nat.le_refl _) _⟩
 ·have g1 : decide (k < 1) = false := by simpa using h0
  by_cases h6 : 5 < k
  ·have WF : Hid (wordF k = []) := Lib.hid (word_out (by unfold At.kindB; rw [decide_eq_false (show ¬ k ≤ 5 by omega)]; simp))
   have g2 : decide (5 < k) = true := by simpa using h6
   clear h0 h6
   go_enter Tryz.func208, Tryz.ntmps208
   go_wp2_with fail
   go_ret
   exact ⟨by rw [WF.out]; rfl, (Below.refl _ _).alloc (Nat.le_refl _) _⟩
  ·rcases (show k = 1 ∨ k = 2 ∨ k = 3 ∨ k = 4 ∨ k = 5 by omega) with rfl | rfl | rfl | rfl | rfl
   all_goals
    clear h0 h6 g1
    go_enter Tryz.func208, Tryz.ntmps208
    go_wp2_with fail
    go_ret
    exact ⟨rfl, (Below.refl _ _).alloc (Nat.le_refl _) _⟩
theorem ron_any (x y : Int) (w : World) :
  Calls Tryz.prog 163 #[.agg #[.int .i64 x, .int .i64 y]] w fun e w' => e = .returned (.bool (At.onB x y)) ∧ Below w.heap.size w w' := by
 have BB := Lib.hid ((Below.refl w.heap.size w).alloc (Nat.le_refl _) (.cells #[.int .i64 x, .int .i64 y] 88))
 have OB : Hid (At.onB x y = (decide (0 ≤ x) && decide (x < 1048576) && decide (0 ≤ y) && decide (y < 1048576))) := Lib.hid rfl
 generalize At.onB x y = R at *
 cases h1 : decide (0 ≤ x) <;> cases h2 : decide (x < 1048576) <;> cases h3 : decide (0 ≤ y) <;> cases h4 : decide (y < 1048576)
 all_goals
  rw [h1, h2, h3, h4] at OB
  go_enter Tryz.func163, Tryz.ntmps163
  go_wp2_with fail
  go_ret
  exact ⟨by rw [OB.out]; rfl, BB.out⟩
theorem rtagsFrom_bad {l : List (Tx × Tx)} {last : Tx} {k : Nat} (h : k < l.length) (hb : (At.nameB l[k].1 && At.lt last l[k].1 && decide (l[k].2 ≠ []) && decide (l[k].2.length ≤ 200)) = false) : At.tagsFrom last (l.drop k) = false := by
 rw [tagsFrom_drop l last h, hb]; rfl
theorem rtagsFrom_good {l : List (Tx × Tx)} {last : Tx} {k : Nat} (h : k < l.length) (hb : (At.nameB l[k].1 && At.lt last l[k].1 && decide (l[k].2 ≠ []) && decide (l[k].2.length ≤ 200)) = true) : At.tagsFrom last (l.drop k) = At.tagsFrom l[k].1 (l.drop (k + 1)) := by
 rw [tagsFrom_drop l last h, hb]; rfl
theorem lt_name {t : Tx} (h : At.nameB t = true) : At.lt [] t = true := At.nil_lt (At.name_ne h)
theorem nil_len (t : Tx) : decide (t ≠ []) = !decide ((t.length : Int) < 1) := by
 cases t with
 | nil => rfl
 | cons a l => simp; omega
theorem le200 (t : Tx) : decide (t.length ≤ 200) = !decide ((200 : Int) < (t.length : Int)) := by
 rw [Bool.eq_iff_iff]; simp; omega
def lastT (l : List (Tx × Tx)) (k : Nat) : Tx := if k = 0 then [] else (l[k - 1]?.map Prod.fst).getD []
theorem lastT_succ {l : List (Tx × Tx)} {k : Nat} (h : k < l.length) : lastT l (k + 1) = l[k].1 := by
 unfold lastT; rw [if_neg (by omega), Nat.add_sub_cancel, List.getElem?_eq_getElem h]; rfl
theorem rtags_any (A : Option Addr) (c : Nat) (l : List (Tx × Tx)) (n : Nat) (w : World) (hn : n = l.length) (hl : n ≤ 1000000) (hs : ∀ t ∈ l, t.1.length ≤ 9223372036854775807 ∧ t.2.length ≤ 9223372036854775807) (h : Rd w A (tagsC l)) :
  Calls Tryz.prog 225 #[.slice A n c] w fun e w' => e = .returned (.bool (At.tagsB l)) ∧ Below w.heap.size w w' := by
 have H := Lib.hid h; clear h
 have HS := Lib.hid hs; clear hs
 have HN := Lib.hid hn; clear hn
 obtain ⟨R, hR⟩ : ∃ R, At.tagsB l = R := ⟨_, rfl⟩
 have HR : Hid (R = (At.tagsFrom [] l && decide (n ≤ 60))) := Lib.hid (by rw [← hR, HN.out]; rfl)
 rw [hR]
 clear hR
 have HB : Hid (Below w.heap.size w w) := Lib.hid (Below.refl _ _)
 by_cases h60 : 60 < n
 ·have g1 : decide ((60 : Int) < (n : Int)) = true := by simp; omega
  have RF : Hid (R = false) := Lib.hid (by rw [HR.out, decide_eq_false (by omega), Bool.and_false])
  clear h60
  go_enter Tryz.func225, Tryz.ntmps225
  go_wp2_with fail
  go_ret
  exact ⟨by rw [RF.out]; rfl, HB.out⟩
 ·have g1 : decide ((60 : Int) < (n : Int)) = false := by simp; omega
  have HR : Hid (R = At.tagsFrom (lastT l 0) (l.drop 0)) := Lib.hid (by rw [HR.out, decide_eq_true (by omega), Bool.and_true]; rfl)
  have h60' : n ≤ 60 := by omega
  clear h60
  rename_i HR0
  clear HR0
  go_enter Tryz.func225, Tryz.ntmps225
  go_wp2_with fail
  clear g1
  go_loopw [3] (fun s3 wr => ∃ (k : Nat), k ≤ n ∧ s3 = .int .i64 (k : Int) ∧ Hid (R = At.tagsFrom (lastT l k) (l.drop k)) ∧ Hid (Below w.heap.size w wr)) (fun i _ => n - (intOf i).toNat)
  case atStart => exact ⟨0, Nat.zero_le _, rfl, HR, HB⟩
  case round =>
   clear HB HR
   obtain ⟨k, hk, rfl, HR, BL⟩ := hrel
   by_cases hlt : k < n
   ·have hkl : k < l.length := by rw [← HN.out]; exact hlt
    have d1 : (k : Int) < (n : Int) := by omega
    have d2 : (0 : Int) ≤ (k : Int) := by omega
    have k8 : IntKind.i64.wrap ((k : Int) + 1) = (k : Int) + 1 := IntWalk.i64_in _ (by omega)
    obtain ⟨b, off, rfl, hb, c0, c1⟩ := tags_at (H.out.below BL.out) hkl
    have SZ := HS.out l[k] (List.getElem_mem hkl)
    have TB := Lib.hid (fun h => HR.out.trans (rtagsFrom_bad (last := lastT l k) hkl h))
    have TG : Hid ((At.nameB l[k].1 && At.lt (lastT l k) l[k].1 && decide (l[k].2 ≠ []) && decide (l[k].2.length ≤ 200)) = true → R = At.tagsFrom (lastT l (k + 1)) (l.drop (k + 1))) := Lib.hid (fun h => by rw [lastT_succ hkl]; exact HR.out.trans (rtagsFrom_good (last := lastT l k) hkl h))
    have NA := nil_len l[k].2
    have NB := le200 l[k].2
    have NM := Lib.hid (fun u => rname_any l[k].1 u SZ.1)
    have LT0 : Hid (k = 0 → lastT l k = []) := Lib.hid (fun h => by rw [h]; rfl)
    have LTS : Hid (∀ j, k = j + 1 → ∃ x0, lastT l k = x0 ∧ wr.cell? ⟨b, off + j * 2, none⟩ = some (.string (mkB x0))) := Lib.hid (fun j h => by
     have hk1 : j < l.length := by omega
     obtain ⟨b', off', e', hb', c0', c1'⟩ := tags_at (H.out.below BL.out) hk1
     obtain ⟨rfl, rfl⟩ : b = b' ∧ off = off' := by injection e' with e'; injection e' with e1 e2; exact ⟨e1, e2⟩
     subst h
     exact ⟨_, lastT_succ hk1, c0'⟩)
    generalize l[k] = x at *
    obtain ⟨last2, hl2⟩ : ∃ x, lastT l (k + 1) = x := ⟨_, rfl⟩
    have HL2 := Lib.hid hl2
    rw [hl2] at TG
    clear hl2
    generalize lastT l k = last at *
    obtain ⟨x1, x2⟩ := x
    dsimp only at c0 c1 SZ NA NB NM TB TG
    have z2 := mkB_len x2
    have t1 := mkB_tl x1
    rw [NA, NB] at TB TG
    clear NA NB SZ
    generalize hq1 : decide ((x2.length : Int) < 1) = q1 at *
    generalize hq2 : decide ((200 : Int) < (x2.length : Int)) = q2 at *
    cases ha : At.nameB x1
    ·have RF := Lib.hid (TB.out (by rw [ha]; rfl))
     rw [ha] at NM
     clear TB TG LT0 LTS
     go_wp2_with fail
     go_quiet ((go_at_call 132; exact Calls.quiet_of_same (NM.out _)))
     go_wp2_with fail
     go_ret
     exact ⟨by rw [RF.out]; rfl, belowNN BL.out _⟩
    ·rw [ha] at NM
     cases q1 with
     | true =>
      have RF := Lib.hid (TB.out (by simp))
      clear TB TG LT0 LTS
      go_wp2_with fail
      go_quiet ((go_at_call 132; exact Calls.quiet_of_same (NM.out _)))
      go_wp2_with fail
      go_ret
      exact ⟨by rw [RF.out]; rfl, belowNN BL.out _⟩
     | false =>
      cases q2 with
      | true =>
       have RF := Lib.hid (TB.out (by simp))
       clear TB TG LT0 LTS
       go_wp2_with fail
       go_quiet ((go_at_call 132; exact Calls.quiet_of_same (NM.out _)))
       go_wp2_with fail
       go_ret
       exact ⟨by rw [RF.out]; rfl, belowNN BL.out _⟩
      | false =>
       cases k with
       | zero =>
        have e0 := LT0.out rfl
        subst e0
        have RG := Lib.hid (TG.out (by rw [ha, lt_name ha]; rfl))
        have g0 : decide ((0 : Int) < ((0 : Nat) : Int)) = false := by simp
        have d3 : (0 : Int) < (n : Int) := by omega
        simp only [Nat.zero_mul, Nat.add_zero] at c0 c1
        clear TB TG LT0 LTS
        go_wp2_with fail
        go_quiet ((go_at_call 132; exact Calls.quiet_of_same (NM.out _)))
        go_wp2_with fail
        exact ⟨⟨0 + 1, by omega, by go_num, Lib.hid (by rw [HL2.out]; exact RG.out), Lib.hid (belowNN BL.out _)⟩, by simp [intOf]; omega⟩
       | succ j =>
        obtain ⟨x0, e0, cp⟩ := LTS.out j rfl
        subst e0
        have t0 := mkB_tl last
        have w1 : IntKind.i64.wrap (j : Int) = (j : Int) := IntWalk.i64_in _ (by omega)
        have g0 : decide ((0 : Int) < ((j + 1 : Nat) : Int)) = true := by simp
        have g1 : decide ((0 : Int) < (j : Int) + 1) = true := by first | (simp; done) | (simp; omega)
        have d3 : (j : Int) < (n : Int) := by omega
        have d4 : (0 : Int) ≤ (j : Int) := by omega
        clear LT0 LTS
        rcases lt_facts last x1 with ⟨p1, p2, p3⟩ | ⟨p1, p2, p3⟩ | ⟨p1, p2, p3⟩
        ·have p4 : Op.bytesLess x1 last = true := p1
         have RF := Lib.hid (TB.out (by rw [show At.lt last x1 = false from p2]; simp))
         clear TB TG p1
         go_wp2_with fail
         go_quiet ((go_at_call 132; exact Calls.quiet_of_same (NM.out _)))
         go_wp2_with fail
         go_ret
         exact ⟨by rw [RF.out]; rfl, belowNN BL.out _⟩
        ·have p4 : Op.bytesLess x1 last = false := p1
         have RG := Lib.hid (TG.out (by rw [ha, show At.lt last x1 = true from p2]; rfl))
         clear TB TG p1
         go_wp2_with fail
         go_quiet ((go_at_call 132; exact Calls.quiet_of_same (NM.out _)))
         go_wp2_with fail
         exact ⟨⟨j + 1 + 1, by omega, by go_num, Lib.hid (by rw [HL2.out]; exact RG.out), Lib.hid (belowNN BL.out _)⟩, by simp [intOf]; omega⟩
        ·have p4 : Op.bytesLess x1 last = false := p1
         have RF := Lib.hid (TB.out (by rw [show At.lt last x1 = false from p2]; simp))
         clear TB TG p1
         go_wp2_with fail
         go_quiet ((go_at_call 132; exact Calls.quiet_of_same (NM.out _)))
         go_wp2_with fail
         go_ret
         exact ⟨by rw [RF.out]; rfl, belowNN BL.out _⟩
   ·obtain rfl : k = n := by omega
    have dk : decide ((k : Int) < (k : Int)) = false := by simp
    have RT : Hid (R = true) := Lib.hid (by rw [HR.out, List.drop_of_length_le (by rw [← HN.out]; exact Nat.le_refl _)]; rfl)
    clear hlt
    go_wp2_with fail
    go_ret
    exact ⟨by rw [RT.out]; rfl, BL.out⟩
end Go.Proofs.YtniklmikdkjgiaaGreatDoor
namespace Go.Proofs.YtniklmikdkjgiaaGreatDoor
open Go.RowKit Go.Maps Go.ChangeMaps Go.MapKept Go.WideShapes Go.WideMaps
def finB (kind : Int) (n : Nat) : Bool := if kind = 1 then ((n : Int) == 0) else if kind = 2 then decide ((2 : Int) ≤ (n : Int)) else if kind = 3 then decide ((3 : Int) ≤ (n : Int)) else if kind = 4 then decide ((1 : Int) ≤ (n : Int)) else ((n : Int) == 3)
def rrefsB (o : At.Ob) : Bool := decide (o.refs.length ≤ 2000) && At.refsFrom o.kind [] [] o.refs && finB o.kind o.refs.length
theorem refsFrom_dropR (kind : Int) (last : Tx) (seen l : List Tx) {k : Nat} (h : k < l.length) :
  At.refsFrom kind last seen (l.drop k) = (!(decide (kind = 2) && decide (l[k] = last) || decide (kind = 3) && decide (l[k] ∈ seen)) && At.nameB l[k] && At.refsFrom kind l[k] (l[k] :: seen) (l.drop (k + 1))) := by
 rw [List.drop_eq_getElem_cons h, At.refsFrom]
def lastS (l : List Tx) (k : Nat) : Tx := if k = 0 then [] else (l[k - 1]?).getD []
theorem lastS_succ {l : List Tx} {k : Nat} (h : k < l.length) : lastS l (k + 1) = l[k] := by
 unfold lastS; rw [if_neg (by omega), Nat.add_sub_cancel, List.getElem?_eq_getElem h]; rfl
theorem rev_take {l : List Tx} {k : Nat} (h : k < l.length) : (l.take (k + 1)).reverse = l[k] :: (l.take k).reverse := by
 rw [List.take_succ_eq_append_getElem h, List.reverse_append]; rfl
theorem rrefs_any (o : RO) (w : World) (h : ObIs w o) (hs : ObSz o.c) :
  Calls Tryz.prog 226 #[roA o] w fun e w' => e = .returned (.bool (rrefsB o.c)) ∧ Below w.heap.size w w' := by
 obtain ⟨⟨A1, c1, v1, r1⟩, ⟨A2, c2, v2, r2⟩⟩ := h
 obtain ⟨W, hW⟩ : ∃ W, W = w.alloc (.cells #[.string (mkB o.c.id), .int .i64 o.c.kind, .int .i64 o.c.x, .int .i64 o.c.y, o.rv, o.tv] 91) := ⟨_, rfl⟩
 have hx : W.heap[w.heap.size]? = some (.cells #[.string (mkB o.c.id), .int .i64 o.c.kind, .int .i64 o.c.x, .int .i64 o.c.y, o.rv, o.tv] 91 (0, 0)) := by rw [hW]; exact heap_alloc_new w _
 have HB : Below w.heap.size w W := by rw [hW]; exact (Below.refl _ _).alloc (Nat.le_refl _) _
 have HZ : W.heap.size = w.heap.size + 1 := by rw [hW]; simp
 have RS := Lib.hid r1
 have SR := Lib.hid hs.ref
 have SL := hs.refs
 obtain ⟨n, hn⟩ : ∃ n, o.c.refs.length = n := ⟨_, rfl⟩
 have HN := Lib.hid hn
 rw [hn] at SL
 have RD : Hid (rrefsB o.c = (decide (n ≤ 2000) && At.refsFrom o.c.kind [] [] o.c.refs && finB o.c.kind n)) := Lib.hid (by rw [← hn]; rfl)
 generalize rrefsB o.c = R at *
 unfold roA
 have hW2 := hW
 rw [v1, v2] at hW2 hx ⊢
 rw [hn] at hW2 hx ⊢
 clear hW hn r1 r2 v1 v2 hs
 have x1 := cell_of_row W w.heap.size 1 _ _ _ hx
 have x4 := cell_of_row W w.heap.size 4 _ _ _ hx
 simp at x1 x4
 generalize o.c.refs = l at *
 generalize o.c.kind = kd at *
 by_cases h2000 : 2000 < n
 ·have g1 : decide ((2000 : Int) < (n : Int)) = true := by simp; omega
  have RF : Hid (R = false) := Lib.hid (by rw [RD.out, decide_eq_false (by omega)]; rfl)
  have HBH := Lib.hid HB
  clear h2000 HB RD
  go_enter Tryz.func226, Tryz.ntmps226
  go_upto_region 1 with fail
  rw [← hW2]
  clear hW2
  go_wp2_with fail
  go_ret
  exact ⟨by rw [RF.out]; rfl, HBH.out⟩
 ·have g1 : decide ((2000 : Int) < (n : Int)) = false := by simp; omega
  have HBH := Lib.hid HB
  have RD : Hid (R = (At.refsFrom kd (lastS l 0) (l.take 0).reverse (l.drop 0) && finB kd n)) := Lib.hid (by rw [RD.out, decide_eq_true (by omega)]; rfl)
  have n2000 : n ≤ 2000 := by omega
  have h2 : ∀ u : World, (Instr.makeMap 62 none).run Tryz.prog u = .ok (.map (some u.heap.size)) (u.alloc (.map #[] 0)) := fun u => run_makeMap _ _
  clear h2000 HB
  go_enter Tryz.func226, Tryz.ntmps226
  go_upto_region 1 with fail
  rw [← hW2]
  clear hW2
  go_wp2_with fail
  obtain ⟨bm, hbm⟩ : ∃ b, b = w.heap.size + 1 := ⟨_, rfl⟩
  have MP : Hid (MapAt (W.alloc (.map #[] 0)) Tryz.prog 9 bm (seenM (l.take 0).reverse) 0) := Lib.hid (by
   have hm := MapAt.made W Tryz.prog 9
   rw [show (fun _ => none : Lit → Option Value) = seenM [] by funext x; cases x <;> simp [seenM]] at hm
   rw [hbm, ← HZ]; exact hm)
  have BB : Hid (Below w.heap.size w (W.alloc (.map #[] 0))) := Lib.hid (HBH.out.alloc (by omega) _)
  have HX : Hid ((W.alloc (.map #[] 0)).heap[w.heap.size]? = some (.cells #[.string (mkB o.c.id), .int .i64 kd, .int .i64 o.c.x, .int .i64 o.c.y, .slice A1 n c1, .slice A2 o.c.tags.length c2] 91 (0, 0))) := Lib.hid ((alloc_old _ _ (by omega)).trans hx)
  rw [← hbm]
  have hbw : w.heap.size < bm := by omega
  generalize W.alloc (.map #[] 0) = V at *
  clear x1 x4 hx h2 g1 HBH HZ
  go_loopw [5] (fun s5 wr => ∃ k nk : Nat, k ≤ n ∧ s5 = .int .i64 (k : Int) ∧ nk ≤ k ∧ Hid (R = (At.refsFrom kd (lastS l k) (l.take k).reverse (l.drop k) && finB kd n)) ∧ Hid (MapAt wr Tryz.prog 9 bm (seenM (l.take k).reverse) nk) ∧ Hid (Below w.heap.size w wr) ∧ Hid (wr.heap[w.heap.size]? = some (.cells #[.string (mkB o.c.id), .int .i64 kd, .int .i64 o.c.x, .int .i64 o.c.y, .slice A1 n c1, .slice A2 o.c.tags.length c2] 91 (0, 0)))) (fun i _ => n - (intOf i).toNat)
  case atStart => exact ⟨0, 0, Nat.zero_le _, rfl, Nat.le_refl _, RD, MP, BB, HX⟩
  case round =>
   clear MP BB HX RD
   obtain ⟨k, nk, hk, rfl, hnk, HR, MP, BL, HX⟩ := hrel
   by_cases hlt : k < n
   ·have hkl : k < l.length := by rw [HN.out]; exact hlt
    have d1 : (k : Int) < (n : Int) := by omega
    have d2 : (0 : Int) ≤ (k : Int) := by omega
    have k8 : IntKind.i64.wrap ((k : Int) + 1) = (k : Int) + 1 := IntWalk.i64_in _ (by omega)
    obtain ⟨b, off, rfl, hb, c0⟩ := strs_at (RS.out.below BL.out) hkl
    have SZ := SR.out l[k] (List.getElem_mem hkl)
    have y1 := cell_of_row wr w.heap.size 1 _ _ _ HX.out
    have y4 := cell_of_row wr w.heap.size 4 _ _ _ HX.out
    simp at y1 y4
    have TB : Hid ((!(decide (kd = 2) && decide (l[k] = lastS l k) || decide (kd = 3) && decide (l[k] ∈ (l.take k).reverse)) && At.nameB l[k]) = false → R = false) := Lib.hid (fun h => by rw [HR.out, refsFrom_dropR _ _ _ _ hkl, h]; rfl)
    have TG : Hid ((!(decide (kd = 2) && decide (l[k] = lastS l k) || decide (kd = 3) && decide (l[k] ∈ (l.take k).reverse)) && At.nameB l[k]) = true → R = (At.refsFrom kd (lastS l (k + 1)) (l.take (k + 1)).reverse (l.drop (k + 1)) && finB kd n)) := Lib.hid (fun h => by rw [HR.out, refsFrom_dropR _ _ _ _ hkl, h, lastS_succ hkl, rev_take hkl]; rfl)
    have LT0 : Hid (k = 0 → lastS l k = []) := Lib.hid (fun h => by rw [h]; rfl)
    have LTS : Hid (∀ j, k = j + 1 → wr.cell? ⟨b, off + j, none⟩ = some (.string (mkB (lastS l k)))) := Lib.hid (fun j h => by
     have hk1 : j < l.length := by omega
     obtain ⟨b', off', e', hb', c0'⟩ := strs_at (RS.out.below BL.out) hk1
     obtain ⟨rfl, rfl⟩ : b = b' ∧ off = off' := by injection e' with e'; injection e' with e1 e2; exact ⟨e1, e2⟩
     subst h
     rw [lastS_succ hk1]; exact c0')
    have NM := Lib.hid (fun u => rname_any l[k] u (Nat.le_trans SZ (by decide)))
    have KS := key_str l[k] SZ
    have LK : Hid (∀ m, (Instr.lookup 62 (.map (some bm)) (.string (mkB l[k])) false).run Tryz.prog (wr.drewN m) = .ok (.bool (decide (l[k] ∈ (l.take k).reverse))) (wr.drewN m)) := Lib.hid (fun m => by
     have h1 := (MP.out.same (w' := wr.drewN m) rfl).look strK Tryz.underlying62 (zBool _) KS
     rw [h1]
     have h2 : (seenM (l.take k).reverse (.string l[k])).getD (.bool false) = .bool (decide (l[k] ∈ (l.take k).reverse)) := by
      unfold seenM; by_cases e : l[k] ∈ (l.take k).reverse
      ·simp only [e, if_true, decide_true]; rfl
      ·simp only [e, if_false, decide_false]; rfl
     rw [h2])
    have MPN : Hid (∀ m, ∃ w2, (Instr.mapUpdate 62 (.map (some bm)) (.string (mkB l[k])) (.bool true)).run Tryz.prog (wr.drewN m) = .ok () w2 ∧ ∃ nk2, MapAt w2 Tryz.prog 9 bm (seenM (l.take (k + 1)).reverse) nk2 ∧ nk2 ≤ k + 1 ∧ Below w.heap.size w w2 ∧ w2.heap[w.heap.size]? = some (.cells #[.string (mkB o.c.id), .int .i64 kd, .int .i64 o.c.x, .int .i64 o.c.y, .slice (some ⟨b, off, none⟩) n c1, .slice A2 o.c.tags.length c2] 91 (0, 0))) := Lib.hid (fun m => by
     obtain ⟨w2, hup, hm2, hg2⟩ := (MP.out.same (w' := wr.drewN m) rfl).upd strK Tryz.underlying62 (by unfold maxLen; omega) KS (.bool true)
     rw [seenM_upd, ← rev_take hkl] at hm2
     have hsz := BL.out.size
     have hbmw : bm < wr.heap.size := MP.out.lt
     refine ⟨w2, hup, _, hm2, by split <;> omega, (belowNN BL.out m).trans ⟨hg2.os, hg2.tape, hg2.output, hg2.size, fun q hq => hg2.block q (Nat.lt_of_lt_of_le hq hsz) (fun e => by have := Option.some.inj e; omega)⟩, (hg2.block _ (show w.heap.size < wr.heap.size by omega) (fun e => by have := Option.some.inj e; omega)).trans HX.out⟩)
    obtain ⟨last2, hl2⟩ : ∃ x, lastS l (k + 1) = x := ⟨_, rfl⟩
    obtain ⟨seen2, hs2⟩ : ∃ x, (l.take (k + 1)).reverse = x := ⟨_, rfl⟩
    have HL2 := Lib.hid hl2
    have HS2 := Lib.hid hs2
    rw [hl2, hs2] at TG
    rw [hs2] at MPN
    have HBM := Lib.hid hbm
    clear hl2 hs2 KS HR MP HX hbm
    generalize (l.take k).reverse = seen at *
    generalize lastS l k = last at *
    generalize l[k] = s at *
    have ts := mkB_tl s
    have tl := mkB_tl last
    cases ha : At.nameB s
    ·rw [ha] at NM
     clear LT0 LTS LK
     have RF := Lib.hid (TB.out (by rw [ha, Bool.and_false]))
     clear TB TG MPN
     go_wp2_with fail
     go_quiet ((go_at_call 132; exact Calls.quiet_of_same (NM.out _)))
     go_wp2_with fail
     go_ret
     exact ⟨by rw [RF.out]; rfl, belowNN BL.out _⟩
    ·rw [ha] at NM
     have sne := At.name_ne ha
     by_cases k2 : kd = 2
     ·subst k2
      cases k with
      | zero =>
       have e0 := LT0.out rfl
       have g0 : decide ((0 : Int) < ((0 : Nat) : Int)) = false := by simp
       have d3 : (0 : Int) < (n : Int) := by omega
       simp only [Nat.add_zero] at c0
       clear LT0 LTS
       have RG := Lib.hid (TG.out (by rw [ha, e0, decide_eq_false sne]; simp))
       clear TB TG
       go_wp2_with fail
       go_quiet ((go_at_call 132; exact Calls.quiet_of_same (NM.out _)))
       obtain ⟨w2, hup, nk2, hm2, hn2, bl2, hx2⟩ := MPN.out nq
       have M2 := Lib.hid hm2
       have B2 := Lib.hid bl2
       have X2 := Lib.hid hx2
       clear hm2 bl2 hx2 MPN LK
       go_wp2_with fail
       exact ⟨⟨0 + 1, nk2, by omega, by go_num, hn2, Lib.hid (by rw [HL2.out, HS2.out]; exact RG.out), Lib.hid (by rw [HS2.out]; exact M2.out), B2, X2⟩, by simp [intOf]; omega⟩
      | succ j =>
       have cp := LTS.out j rfl
       have w1 : IntKind.i64.wrap (j : Int) = (j : Int) := IntWalk.i64_in _ (by omega)
       have g0 : decide ((0 : Int) < ((j + 1 : Nat) : Int)) = true := by simp
       have g1 : decide ((0 : Int) < (j : Int) + 1) = true := by first | (simp; done) | (simp; omega)
       have d3 : (j : Int) < (n : Int) := by omega
       have d4 : (0 : Int) ≤ (j : Int) := by omega
       clear LT0 LTS
       by_cases e : s = last
       ·have e1 : (last == s) = true := by rw [e]; simp
        have RF := Lib.hid (TB.out (by rw [ha, decide_eq_true e]; simp))
        clear TB TG MPN e
        go_wp2_with fail
        go_quiet ((go_at_call 132; exact Calls.quiet_of_same (NM.out _)))
        go_wp2_with fail
        go_ret
        exact ⟨by rw [RF.out]; rfl, belowNN BL.out _⟩
       ·have e1 : (last == s) = false := by simpa using fun h => e h.symm
        have RG := Lib.hid (TG.out (by rw [ha, decide_eq_false e]; simp))
        clear TB TG
        go_wp2_with fail
        go_quiet ((go_at_call 132; exact Calls.quiet_of_same (NM.out _)))
        obtain ⟨w2, hup, nk2, hm2, hn2, bl2, hx2⟩ := MPN.out nq
        have M2 := Lib.hid hm2
        have B2 := Lib.hid bl2
        have X2 := Lib.hid hx2
        clear hm2 bl2 hx2 MPN LK
        go_wp2_with fail
        exact ⟨⟨j + 1 + 1, nk2, by omega, by go_num, hn2, Lib.hid (by rw [HL2.out, HS2.out]; exact RG.out), Lib.hid (by rw [HS2.out]; exact M2.out), B2, X2⟩, by simp [intOf]; omega⟩
     ·by_cases k3 : kd = 3
      ·subst k3
       have lk := LK.out
       cases hds : decide (s ∈ seen)
       ·simp only [hds] at lk
        have RG := Lib.hid (TG.out (by rw [ha, hds]; simp))
        clear TB TG
        go_wp2_with fail
        go_quiet ((go_at_call 132; exact Calls.quiet_of_same (NM.out _)))
        obtain ⟨w2, hup, nk2, hm2, hn2, bl2, hx2⟩ := MPN.out nq
        have M2 := Lib.hid hm2
        have B2 := Lib.hid bl2
        have X2 := Lib.hid hx2
        clear hm2 bl2 hx2 MPN LK
        go_wp2_with fail
        exact ⟨⟨k + 1, nk2, by omega, by go_num, hn2, Lib.hid (by rw [HL2.out, HS2.out]; exact RG.out), Lib.hid (by rw [HS2.out]; exact M2.out), B2, X2⟩, by simp [intOf]; omega⟩
       ·simp only [hds] at lk
        have RF := Lib.hid (TB.out (by rw [ha, hds]; simp))
        clear TB TG MPN
        go_wp2_with fail
        go_quiet ((go_at_call 132; exact Calls.quiet_of_same (NM.out _)))
        go_wp2_with fail
        go_ret
        exact ⟨by rw [RF.out]; rfl, belowNN BL.out _⟩
      ·have e2 : (kd == 2) = false := by simpa using k2
       have e3 : (kd == 3) = false := by simpa using k3
       have RG := Lib.hid (TG.out (by rw [ha, decide_eq_false k2, decide_eq_false k3]; simp))
       clear TB TG
       go_wp2_with fail
       go_quiet ((go_at_call 132; exact Calls.quiet_of_same (NM.out _)))
       obtain ⟨w2, hup, nk2, hm2, hn2, bl2, hx2⟩ := MPN.out nq
       have M2 := Lib.hid hm2
       have B2 := Lib.hid bl2
       have X2 := Lib.hid hx2
       clear hm2 bl2 hx2 MPN LK
       go_wp2_with fail
       exact ⟨⟨k + 1, nk2, by omega, by go_num, hn2, Lib.hid (by rw [HL2.out, HS2.out]; exact RG.out), Lib.hid (by rw [HS2.out]; exact M2.out), B2, X2⟩, by simp [intOf]; omega⟩
   ·obtain rfl : k = n := by omega
    have dk : decide ((k : Int) < (k : Int)) = false := by simp
    have RT : Hid (R = finB kd k) := Lib.hid (by rw [HR.out, List.drop_of_length_le (by rw [HN.out]; exact Nat.le_refl _)]; rfl)
    have y1 := cell_of_row wr w.heap.size 1 _ _ _ HX.out
    simp at y1
    clear hlt HR MP HX
    by_cases k1 : kd = 1
    ·subst k1
     have RV : Hid (R = ((k : Int) == 0)) := Lib.hid (by rw [RT.out]; unfold finB; rw [if_pos rfl])
     clear RT
     cases hz : (((k : Int) == 0))
     all_goals
      rw [hz] at RV
      go_wp2_with fail
      go_ret
      exact ⟨by rw [RV.out]; rfl, BL.out⟩
    ·by_cases k2 : kd = 2
     ·subst k2
      have RV : Hid (R = decide ((2 : Int) ≤ (k : Int))) := Lib.hid (by rw [RT.out]; unfold finB; rw [if_neg (by decide), if_pos rfl])
      clear RT
      cases hz : (decide ((2 : Int) ≤ (k : Int)))
      all_goals
       rw [hz] at RV
       go_wp2_with fail
       go_ret
       exact ⟨by rw [RV.out]; rfl, BL.out⟩
     ·by_cases k3 : kd = 3
      ·subst k3
       have RV : Hid (R = decide ((3 : Int) ≤ (k : Int))) := Lib.hid (by rw [RT.out]; unfold finB; rw [if_neg (by decide), if_neg (by decide), if_pos rfl])
       clear RT
       cases hz : (decide ((3 : Int) ≤ (k : Int)))
       all_goals
        rw [hz] at RV
        go_wp2_with fail
        go_ret
        exact ⟨by rw [RV.out]; rfl, BL.out⟩
      ·by_cases k4 : kd = 4
       ·subst k4
        have RV : Hid (R = decide ((1 : Int) ≤ (k : Int))) := Lib.hid (by rw [RT.out]; unfold finB; rw [if_neg (by decide), if_neg (by decide), if_neg (by decide), if_pos rfl])
        clear RT
        cases hz : (decide ((1 : Int) ≤ (k : Int)))
        all_goals
         rw [hz] at RV
         go_wp2_with fail
         go_ret
         exact ⟨by rw [RV.out]; rfl, BL.out⟩
       ·have e1 : (kd == 1) = false := by simpa using k1
        have e2 : (kd == 2) = false := by simpa using k2
        have e3 : (kd == 3) = false := by simpa using k3
        have e4 : (kd == 4) = false := by simpa using k4
        have RV : Hid (R = ((k : Int) == 3)) := Lib.hid (by rw [RT.out]; unfold finB; rw [if_neg k1, if_neg k2, if_neg k3, if_neg k4])
        clear RT
        cases hz : (((k : Int) == 3))
        all_goals
         rw [hz] at RV
         go_wp2_with fail
         go_ret
         exact ⟨by rw [RV.out]; rfl, BL.out⟩
end Go.Proofs.YtniklmikdkjgiaaGreatDoor
namespace Go.Proofs.YtniklmikdkjgiaaGreatDoor
open Go.RowKit
def ratB (o : At.Ob) : Bool := if o.kind = 1 then At.onB o.x o.y else (decide (o.x = 0) && decide (o.y = 0))
theorem rvalid_eq (o : At.Ob) : (At.nameB o.id && At.kindB o.kind && ratB o && At.tagsB o.tags && rrefsB o) = At.validO o := by
 unfold At.validO rrefsB ratB At.formB At.zeroAt finB At.leastF
 generalize At.nameB o.id = a
 generalize At.tagsB o.tags = b
 generalize At.refsFrom o.kind [] [] o.refs = c
 generalize At.onB o.x o.y = d
 generalize (decide (o.x = 0) && decide (o.y = 0)) = e
 generalize o.refs.length = n
 cases hk : At.kindB o.kind
 ·simp
 ·have hk2 := hk
  unfold At.kindB at hk2
  simp only [Bool.and_eq_true, decide_eq_true_eq] at hk2
  rw [Bool.eq_iff_iff]
  rcases (show o.kind = 1 ∨ o.kind = 2 ∨ o.kind = 3 ∨ o.kind = 4 ∨ o.kind = 5 by omega) with h | h | h | h | h
  all_goals
   simp only [h, if_true, if_false, Bool.and_eq_true, decide_eq_true_eq, beq_iff_eq, Int.reduceEq]
   constructor
   ·rintro ⟨⟨⟨⟨h1, -⟩, h3⟩, h4⟩, ⟨h5, h6⟩, h7⟩
    refine ⟨⟨⟨⟨⟨⟨?_, ?_⟩, ?_⟩, ?_⟩, ?_⟩, ?_⟩, ?_⟩
    all_goals first | trivial | assumption | omega | exact ⟨by omega, h3⟩
   ·rintro ⟨⟨⟨⟨⟨⟨-, h2⟩, h3⟩, h4⟩, h5⟩, h6⟩, h7⟩
    refine ⟨⟨⟨⟨?_, ?_⟩, ?_⟩, ?_⟩, ⟨?_, ?_⟩, ?_⟩
    all_goals first | trivial | assumption | omega | exact h7.2 | (have := h7.1; omega)
theorem r11valid_any (o : RO) (w : World) (h : ObIs w o) (hs : ObSz o.c) :
  Calls Tryz.prog 207 #[roA o] w fun e w' => e = .returned (.bool (At.validO o.c)) ∧ Below w.heap.size w w' := by
 have HO := Lib.hid h
 have HSZ := Lib.hid hs
 obtain ⟨⟨A1, c1, v1, r1⟩, ⟨A2, c2, v2, r2⟩⟩ := h
 obtain ⟨W, hW⟩ : ∃ W, W = w.alloc (.cells #[.string (mkB o.c.id), .int .i64 o.c.kind, .int .i64 o.c.x, .int .i64 o.c.y, o.rv, o.tv] 91) := ⟨_, rfl⟩
 have hx : W.heap[w.heap.size]? = some (.cells #[.string (mkB o.c.id), .int .i64 o.c.kind, .int .i64 o.c.x, .int .i64 o.c.y, o.rv, o.tv] 91 (0, 0)) := by rw [hW]; exact heap_alloc_new w _
 have HB : Below w.heap.size w W := by rw [hW]; exact (Below.refl _ _).alloc (Nat.le_refl _) _
 have HZ : W.heap.size = w.heap.size + 1 := by rw [hW]; simp
 have HBH := Lib.hid HB
 have BX : Hid (∀ u, OldB W u → Below w.heap.size w u ∧ u.heap[w.heap.size]? = some (.cells #[.string (mkB o.c.id), .int .i64 o.c.kind, .int .i64 o.c.x, .int .i64 o.c.y, o.rv, o.tv] 91 (0, 0))) :=
  Lib.hid (fun u hu => ⟨HB.trans (Below.mono hu HB.size), (hu.block _ (by omega)).trans hx⟩)
 have ON := Lib.hid (fun u => ron_any o.c.x o.c.y u)
 have NM := Lib.hid (fun u => rname_any o.c.id u (Nat.le_trans hs.id (by decide)))
 have WD := Lib.hid (fun u => rrword_any o.c.kind u)
 have TG : Hid (∀ u, OldB W u → Calls Tryz.prog 225 #[.slice A2 o.c.tags.length c2] u fun e w' => e = .returned (.bool (At.tagsB o.c.tags)) ∧ Below u.heap.size u w') := Lib.hid (fun u hu => rtags_any A2 c2 _ _ u rfl hs.tags hs.tag (r2.below (BX.out u hu).1))
 have RF : Hid (∀ u, OldB W u → Calls Tryz.prog 226 #[roA o] u fun e w' => e = .returned (.bool (rrefsB o.c)) ∧ Below u.heap.size u w') := Lib.hid (fun u hu => rrefs_any o u (HO.out.below (BX.out u hu).1) HSZ.out)
 have KW := wordF_ne (k := o.c.kind)
 have tw := mkB_tl (wordF o.c.kind)
 have te := mkB_tl []
 have em : (ByteArray.mk #[]) = mkB [] := rfl
 have VR : Hid (At.validO o.c = (At.nameB o.c.id && At.kindB o.c.kind && ratB o.c && At.tagsB o.c.tags && rrefsB o.c)) := Lib.hid (rvalid_eq _).symm
 have RA : Hid (ratB o.c = if o.c.kind = 1 then At.onB o.c.x o.c.y else (decide (o.c.x = 0) && decide (o.c.y = 0))) := Lib.hid rfl
 have OW : Hid (OldB W W) := Lib.hid (Below.refl _ _)
 unfold roA at RF ⊢
 have hW2 := hW
 rw [v1, v2] at hW2 RF BX ⊢
 clear hW r1 r2 v1 v2 hs HO HSZ HB HZ hx
 generalize At.validO o.c = R at *
 generalize ratB o.c = ra at *
 generalize rrefsB o.c = rf at *
 generalize At.onB o.c.x o.c.y = on at *
 generalize At.tagsB o.c.tags = tg at *
 generalize At.nameB o.c.id = nm at *
 have hx := (BX.out W OW.out).2
 have x0 := cell_of_row W w.heap.size 0 _ _ _ hx
 have x1 := cell_of_row W w.heap.size 1 _ _ _ hx
 have x2 := cell_of_row W w.heap.size 2 _ _ _ hx
 have x3 := cell_of_row W w.heap.size 3 _ _ _ hx
 simp at x0 x1 x2 x3
 clear hx
 go_enter Tryz.func207, Tryz.ntmps207
 go_upto_region 1 with fail
 rw [← hW2]
 clear hW2
 go_wp2_with fail
 refine (ON.out _).mono ?_
 rintro e u1 ⟨rfl, b1⟩
 have O1 : Hid (OldB W u1) := Lib.hid b1
 clear b1 x0 x1 x2 x3
 have hx := (BX.out u1 O1.out).2
 have x0 := cell_of_row u1 w.heap.size 0 _ _ _ hx
 have x1 := cell_of_row u1 w.heap.size 1 _ _ _ hx
 have x2 := cell_of_row u1 w.heap.size 2 _ _ _ hx
 have x3 := cell_of_row u1 w.heap.size 3 _ _ _ hx
 simp at x0 x1 x2 x3
 clear hx
 by_cases k1 : o.c.kind = 1
 ·have e1 : (o.c.kind == 1) = true := by rw [k1]; rfl
  have e2 : (o.c.kind != 1) = false := by rw [k1]; rfl
  have RA2 : Hid (ra = on) := Lib.hid (by rw [RA.out, if_pos k1])
  clear k1 RA
  go_wp2_with fail
  refine (NM.out _).mono ?_
  rintro e v1 ⟨rfl, rfl⟩
  cases nm with
  | false =>
   have RT : Hid (R = false) := Lib.hid (by rw [VR.out]; simp)
   go_wp2_with fail
   go_ret
   exact ⟨by rw [RT.out]; rfl, (BX.out _ O1.out).1⟩
  | true =>
   go_wp2_with fail
   refine (WD.out _).mono ?_
   rintro e u2 ⟨rfl, b2⟩
   have O2 : Hid (OldB W u2) := Lib.hid (OldB.then O1.out b2)
   clear b2 x0 x1 x2 x3
   cases hk : At.kindB o.c.kind with
   | false =>
    rw [hk] at KW
    have RT : Hid (R = false) := Lib.hid (by rw [VR.out, hk]; rfl)
    go_wp2_with fail
    go_ret
    exact ⟨by rw [RT.out]; rfl, (BX.out _ O2.out).1⟩
   | true =>
    rw [hk] at KW
    cases on with
    | false =>
     have RT : Hid (R = false) := Lib.hid (by rw [VR.out, RA2.out]; simp)
     go_wp2_with fail
     go_ret
     exact ⟨by rw [RT.out]; rfl, (BX.out _ O2.out).1⟩
    | true =>
     have hx := (BX.out u2 O2.out).2
     have x0 := cell_of_row u2 w.heap.size 0 _ _ _ hx
     have x1 := cell_of_row u2 w.heap.size 1 _ _ _ hx
     have x2 := cell_of_row u2 w.heap.size 2 _ _ _ hx
     have x3 := cell_of_row u2 w.heap.size 3 _ _ _ hx
     have x4 := cell_of_row u2 w.heap.size 4 _ _ _ hx
     have x5 := cell_of_row u2 w.heap.size 5 _ _ _ hx
     simp at x0 x1 x2 x3 x4 x5
     clear hx
     go_wp2_with fail
     refine (TG.out _ O2.out).mono ?_
     rintro e u3 ⟨rfl, b3⟩
     have O3 : Hid (OldB W u3) := Lib.hid (OldB.then O2.out b3)
     clear b3 x0 x1 x2 x3 x4 x5
     cases tg with
     | false =>
      have RT : Hid (R = false) := Lib.hid (by rw [VR.out]; simp)
      go_wp2_with fail
      go_ret
      exact ⟨by rw [RT.out]; rfl, (BX.out _ O3.out).1⟩
     | true =>
      have hx := (BX.out u3 O3.out).2
      have x0 := cell_of_row u3 w.heap.size 0 _ _ _ hx
      have x1 := cell_of_row u3 w.heap.size 1 _ _ _ hx
      have x2 := cell_of_row u3 w.heap.size 2 _ _ _ hx
      have x3 := cell_of_row u3 w.heap.size 3 _ _ _ hx
      have x4 := cell_of_row u3 w.heap.size 4 _ _ _ hx
      have x5 := cell_of_row u3 w.heap.size 5 _ _ _ hx
      simp at x0 x1 x2 x3 x4 x5
      clear hx
      go_wp2_with fail
      refine (RF.out _ O3.out).mono ?_
      rintro e u4 ⟨rfl, b4⟩
      have O4 : Hid (OldB W u4) := Lib.hid (OldB.then O3.out b4)
      clear b4 x0 x1 x2 x3 x4 x5
      have RT : Hid (R = rf) := Lib.hid (by rw [VR.out, hk, RA2.out]; rfl)
      go_wp2_with fail
      go_ret
      exact ⟨by rw [RT.out]; rfl, (BX.out _ O4.out).1⟩
 ·have e1 : (o.c.kind == 1) = false := by simpa using k1
  have e2 : (o.c.kind != 1) = true := by simpa using k1
  rw [if_neg k1] at RA
  clear k1
  by_cases qx : o.c.x = 0
  ·have ex : (o.c.x == 0) = true := by rw [qx]; rfl
   by_cases qy : o.c.y = 0
   ·have ey : (o.c.y == 0) = true := by rw [qy]; rfl
    have RA2 : Hid (ra = true) := Lib.hid (by rw [RA.out, decide_eq_true qx, decide_eq_true qy]; rfl)
    clear qx qy RA
    go_wp2_with fail
    refine (NM.out _).mono ?_
    rintro e v1 ⟨rfl, rfl⟩
    cases nm with
    | false =>
     have RT : Hid (R = false) := Lib.hid (by rw [VR.out]; simp)
     go_wp2_with fail
     go_ret
     exact ⟨by rw [RT.out]; rfl, (BX.out _ O1.out).1⟩
    | true =>
     go_wp2_with fail
     refine (WD.out _).mono ?_
     rintro e u2 ⟨rfl, b2⟩
     have O2 : Hid (OldB W u2) := Lib.hid (OldB.then O1.out b2)
     clear b2 x0 x1 x2 x3
     cases hk : At.kindB o.c.kind with
     | false =>
      rw [hk] at KW
      have RT : Hid (R = false) := Lib.hid (by rw [VR.out, hk]; rfl)
      go_wp2_with fail
      go_ret
      exact ⟨by rw [RT.out]; rfl, (BX.out _ O2.out).1⟩
     | true =>
      rw [hk] at KW
      have hx := (BX.out u2 O2.out).2
      have x0 := cell_of_row u2 w.heap.size 0 _ _ _ hx
      have x1 := cell_of_row u2 w.heap.size 1 _ _ _ hx
      have x2 := cell_of_row u2 w.heap.size 2 _ _ _ hx
      have x3 := cell_of_row u2 w.heap.size 3 _ _ _ hx
      have x4 := cell_of_row u2 w.heap.size 4 _ _ _ hx
      have x5 := cell_of_row u2 w.heap.size 5 _ _ _ hx
      simp at x0 x1 x2 x3 x4 x5
      clear hx
      go_wp2_with fail
      refine (TG.out _ O2.out).mono ?_
      rintro e u3 ⟨rfl, b3⟩
      have O3 : Hid (OldB W u3) := Lib.hid (OldB.then O2.out b3)
      clear b3 x0 x1 x2 x3 x4 x5
      cases tg with
      | false =>
       have RT : Hid (R = false) := Lib.hid (by rw [VR.out]; simp)
       go_wp2_with fail
       go_ret
       exact ⟨by rw [RT.out]; rfl, (BX.out _ O3.out).1⟩
      | true =>
       have hx := (BX.out u3 O3.out).2
       have x0 := cell_of_row u3 w.heap.size 0 _ _ _ hx
       have x1 := cell_of_row u3 w.heap.size 1 _ _ _ hx
       have x2 := cell_of_row u3 w.heap.size 2 _ _ _ hx
       have x3 := cell_of_row u3 w.heap.size 3 _ _ _ hx
       have x4 := cell_of_row u3 w.heap.size 4 _ _ _ hx
       have x5 := cell_of_row u3 w.heap.size 5 _ _ _ hx
       simp at x0 x1 x2 x3 x4 x5
       clear hx
       go_wp2_with fail
       refine (RF.out _ O3.out).mono ?_
       rintro e u4 ⟨rfl, b4⟩
       have O4 : Hid (OldB W u4) := Lib.hid (OldB.then O3.out b4)
       clear b4 x0 x1 x2 x3 x4 x5
       have RT : Hid (R = rf) := Lib.hid (by rw [VR.out, hk, RA2.out]; rfl)
       go_wp2_with fail
       go_ret
       exact ⟨by rw [RT.out]; rfl, (BX.out _ O4.out).1⟩
   ·have ey : (o.c.y == 0) = false := by simpa using qy
    have RA2 : Hid (ra = false) := Lib.hid (by rw [RA.out, decide_eq_false qy, Bool.and_false])
    clear qx qy RA
    go_wp2_with fail
    refine (NM.out _).mono ?_
    rintro e v1 ⟨rfl, rfl⟩
    cases nm with
    | false =>
     have RT : Hid (R = false) := Lib.hid (by rw [VR.out]; simp)
     go_wp2_with fail
     go_ret
     exact ⟨by rw [RT.out]; rfl, (BX.out _ O1.out).1⟩
    | true =>
     go_wp2_with fail
     refine (WD.out _).mono ?_
     rintro e u2 ⟨rfl, b2⟩
     have O2 : Hid (OldB W u2) := Lib.hid (OldB.then O1.out b2)
     clear b2 x0 x1 x2 x3
     cases hk : At.kindB o.c.kind with
     | false =>
      rw [hk] at KW
      have RT : Hid (R = false) := Lib.hid (by rw [VR.out, hk]; rfl)
      go_wp2_with fail
      go_ret
      exact ⟨by rw [RT.out]; rfl, (BX.out _ O2.out).1⟩
     | true =>
      rw [hk] at KW
      have RT : Hid (R = false) := Lib.hid (by rw [VR.out, RA2.out]; simp)
      go_wp2_with fail
      go_ret
      exact ⟨by rw [RT.out]; rfl, (BX.out _ O2.out).1⟩
  ·have ex : (o.c.x == 0) = false := by simpa using qx
   have RA2 : Hid (ra = false) := Lib.hid (by rw [RA.out, decide_eq_false qx]; rfl)
   clear qx RA
   go_wp2_with fail
   refine (NM.out _).mono ?_
   rintro e v1 ⟨rfl, rfl⟩
   cases nm with
   | false =>
    have RT : Hid (R = false) := Lib.hid (by rw [VR.out]; simp)
    go_wp2_with fail
    go_ret
    exact ⟨by rw [RT.out]; rfl, (BX.out _ O1.out).1⟩
   | true =>
    go_wp2_with fail
    refine (WD.out _).mono ?_
    rintro e u2 ⟨rfl, b2⟩
    have O2 : Hid (OldB W u2) := Lib.hid (OldB.then O1.out b2)
    clear b2 x0 x1 x2 x3
    cases hk : At.kindB o.c.kind with
    | false =>
     rw [hk] at KW
     have RT : Hid (R = false) := Lib.hid (by rw [VR.out, hk]; rfl)
     go_wp2_with fail
     go_ret
     exact ⟨by rw [RT.out]; rfl, (BX.out _ O2.out).1⟩
    | true =>
     rw [hk] at KW
     have RT : Hid (R = false) := Lib.hid (by rw [VR.out, RA2.out]; simp)
     go_wp2_with fail
     go_ret
     exact ⟨by rw [RT.out]; rfl, (BX.out _ O2.out).1⟩
end Go.Proofs.YtniklmikdkjgiaaGreatDoor
namespace Go.Proofs.YtniklmikdkjgiaaGreatDoor
open Go.RowKit
theorem isd_any (s : Tx) (w : World) (hs : s.length ≤ 1000000) : Calls Tryz.prog 161 #[.string (mkB s)] w fun e w' => e = .returned (.bool (Dg.isD s)) ∧ w' = w := by
 refine (ris_any (mkB s) w (by rw [Lib.size_eq, mkB_list]; omega)).mono ?_
 rintro e w' ⟨rfl, rfl⟩
 exact ⟨by rw [mkB_list], rfl⟩
theorem dig27_any (A : Option Addr) (n c : Nat) (l : List Tx) (w : World) (hn : n = l.length) (hl : n ≤ 1000000) (hs : ∀ s ∈ l, s.length ≤ 1000000) (h : Rd w A (strsC l)) :
  Calls Tryz.prog 133 #[.slice A n c] w fun e w' => e = .returned (.bool (l.all Dg.isD)) ∧ w' = w := by
 have H := Lib.hid h
 have HN := Lib.hid hn
 have HS := Lib.hid hs
 clear h hn hs
 obtain ⟨R, hR⟩ : ∃ R, l.all Dg.isD = R := ⟨_, rfl⟩
 have HR : Hid (R = (l.drop 0).all Dg.isD) := Lib.hid hR.symm
 rw [hR]
 clear hR
 go_enter Tryz.func133, Tryz.ntmps133
 go_wp2_with fail
 go_loopw [3] (fun s3 wr => ∃ k : Nat, k ≤ n ∧ s3 = .int .i64 (k : Int) ∧ Hid (R = (l.drop k).all Dg.isD) ∧ Hid (wr = w)) (fun i _ => n - (intOf i).toNat)
 case atStart => exact ⟨0, Nat.zero_le _, rfl, HR, Lib.hid rfl⟩
 case round =>
  clear HR
  obtain ⟨k, hkn, rfl, HR, EW⟩ := hrel
  by_cases hlt : k < n
  ·have hkl : k < l.length := by rw [← HN.out]; exact hlt
   have d1 : (k : Int) < (n : Int) := by omega
   have d2 : (0 : Int) ≤ (k : Int) := by omega
   obtain ⟨b, off, rfl, hb, c0⟩ := strs_at H.out hkl
   rw [← EW.out] at c0
   have RK : Hid (R = (Dg.isD l[k] && (l.drop (k + 1)).all Dg.isD)) := Lib.hid (by rw [HR.out, List.drop_eq_getElem_cons hkl, List.all_cons])
   have IS := Lib.hid (isd_any l[k] wr (HS.out _ (List.getElem_mem hkl)))
   clear HR
   generalize Dg.isD l[k] = q at *
   go_wp2_with fail
   (with_reducible refine IS.out.mono ?_)
   rintro e w' ⟨rfl, rfl⟩
   clear IS
   cases q
   ·have RF : Hid (R = false) := Lib.hid (by rw [RK.out, Bool.false_and])
    clear RK
    go_wp2_with fail
    go_ret
    exact ⟨by rw [RF.out]; rfl, EW.out⟩
   ·have R2 : Hid (R = (l.drop (k + 1)).all Dg.isD) := Lib.hid (by rw [RK.out, Bool.true_and])
    clear RK
    go_wp2_with fail
    exact ⟨⟨k + 1, by omega, by go_num, R2, EW⟩, by simp [intOf]; omega⟩
  ·have d1 : ¬ (k : Int) < (n : Int) := by omega
   have RT : Hid (R = true) := Lib.hid (by rw [HR.out, List.drop_eq_nil_of_le (by rw [← HN.out]; omega)]; rfl)
   clear HR
   go_wp2_with fail
   go_ret
   exact ⟨by rw [RT.out]; rfl, EW.out⟩
theorem zero27_any (i : Int) (A1 : Option Addr) (n1 c1 : Nat) (A2 : Option Addr) (n2 c2 : Nat) (w : World) :
  Calls Tryz.prog 162 #[.agg #[.int .i64 i, .slice A1 n1 c1, .slice A2 n2 c2]] w fun e w' => e = .returned (.bool (decide (i = 0) && (decide (n1 = 0) && decide (n2 = 0)))) ∧ Below w.heap.size w w' := by
 obtain ⟨X, hX⟩ : ∃ X, X = w.alloc (.cells #[.int .i64 i, .slice A1 n1 c1, .slice A2 n2 c2] 51) := ⟨_, rfl⟩
 have BX : Hid (Below w.heap.size w X) := Lib.hid (by rw [hX]; exact (Below.refl _ _).alloc (Nat.le_refl _) _)
 have XX : X.heap[w.heap.size]? = some (.cells #[.int .i64 i, .slice A1 n1 c1, .slice A2 n2 c2] 51 (0, 0)) := by rw [hX]; exact heap_alloc_new w _
 have x0 := load_block (i := 0) XX rfl
 have x1 := load_block (i := 1) XX rfl
 have x2 := load_block (i := 2) XX rfl
 have X0 := Lib.hid hX
 clear XX hX
 by_cases h0 : i = 0
 case neg =>
  have g0 : (i == 0) = false := by simpa using h0
  have PF : Hid ((decide (i = 0) && (decide (n1 = 0) && decide (n2 = 0))) = false) := Lib.hid (by rw [decide_eq_false h0]; rfl)
  clear h0
  go_enter Tryz.func162, Tryz.ntmps162
  go_upto_region 1 with fail
  rw [← X0.out]
  clear X0
  go_wp2_with fail
  go_ret
  exact ⟨by rw [PF.out]; rfl, BX.out⟩
 have g0 : (i == 0) = true := by rw [h0]; rfl
 by_cases h1 : n1 = 0
 case neg =>
  have g1 : ((n1 : Int) == 0) = false := by simpa using h1
  have PF : Hid ((decide (i = 0) && (decide (n1 = 0) && decide (n2 = 0))) = false) := Lib.hid (by rw [decide_eq_false h1, Bool.false_and, Bool.and_false])
  clear h0 h1
  go_enter Tryz.func162, Tryz.ntmps162
  go_upto_region 1 with fail
  rw [← X0.out]
  clear X0
  go_wp2_with fail
  go_ret
  exact ⟨by rw [PF.out]; rfl, BX.out⟩
 have g1 : ((n1 : Int) == 0) = true := by rw [h1]; rfl
 by_cases h2 : n2 = 0
 case neg =>
  have g2 : ((n2 : Int) == 0) = false := by simpa using h2
  have PF : Hid ((decide (i = 0) && (decide (n1 = 0) && decide (n2 = 0))) = false) := Lib.hid (by rw [decide_eq_false h2, Bool.and_false, Bool.and_false])
  clear h0 h1 h2
  go_enter Tryz.func162, Tryz.ntmps162
  go_upto_region 1 with fail
  rw [← X0.out]
  clear X0
  go_wp2_with fail
  go_ret
  exact ⟨by rw [PF.out]; rfl, BX.out⟩
 have g2 : ((n2 : Int) == 0) = true := by rw [h2]; rfl
 have PF : Hid ((decide (i = 0) && (decide (n1 = 0) && decide (n2 = 0))) = true) := Lib.hid (by rw [decide_eq_true h0, decide_eq_true h1, decide_eq_true h2]; rfl)
 clear h0 h1 h2
 go_enter Tryz.func162, Tryz.ntmps162
 go_upto_region 1 with fail
 rw [← X0.out]
 clear X0
 go_wp2_with fail
 go_ret
 exact ⟨by rw [PF.out]; rfl, BX.out⟩
theorem formed_eq (s : Se) : formedS s = ((decide (s.index = 0) && (decide (s.sig.length = 0) && decide (s.path.length = 0))) || (decide (0 ≤ s.index) && (decide (s.index ≤ 255) && (decide (s.sig.length = 18) && (decide (s.path.length ≤ 8) && (s.sig.all Dg.isD && s.path.all Dg.isD)))))) := by
 unfold formedS zeroS
 have e1 : decide (s.sig.length + s.path.length = 0) = (decide (s.sig.length = 0) && decide (s.path.length = 0)) := by
  rw [Bool.eq_iff_iff]; simp [Nat.add_eq_zero_iff]
 have e2 : decide (s.index < 256) = decide (s.index ≤ 255) := by rw [Bool.eq_iff_iff]; simp; omega
 rw [e1, e2]
 simp only [Bool.and_assoc]
theorem formed27_any (s : SlV) (w : World) (h : SlvIs w s) (hs : SeSz s.c) :
  Calls Tryz.prog 135 #[.agg (slL s).toArray] w fun e w' => e = .returned (.bool (formedS s.c)) ∧ Below w.heap.size w w' := by
 have FE := Lib.hid (formed_eq s.c)
 obtain ⟨⟨A1, c1, v1, r1⟩, ⟨A2, c2, v2, r2⟩⟩ := h
 unfold slL
 rw [v1, v2]
 have DA : Hid (∀ u, Below w.heap.size w u → Calls Tryz.prog 133 #[.slice A1 s.sig.length c1] u fun e w' => e = .returned (.bool (s.sig.all Dg.isD)) ∧ w' = u) := Lib.hid (fun u hu => dig27_any A1 _ c1 s.sig u rfl hs.sig hs.sigs (r1.below hu))
 have DB : Hid (∀ u, Below w.heap.size w u → Calls Tryz.prog 133 #[.slice A2 s.path.length c2] u fun e w' => e = .returned (.bool (s.path.all Dg.isD)) ∧ w' = u) := Lib.hid (fun u hu => dig27_any A2 _ c2 s.path u rfl hs.path hs.paths (r2.below hu))
 rw [show s.c.index = s.index from rfl, show s.c.sig = s.sig from rfl, show s.c.path = s.path from rfl] at FE
 generalize formedS s.c = R at *
 generalize s.sig.all Dg.isD = qa at *
 generalize s.path.all Dg.isD = qb at *
 generalize s.sig.length = n1 at *
 generalize s.path.length = n2 at *
 generalize s.index = i at *
 clear v1 v2 r1 r2 hs
 obtain ⟨X, hX⟩ : ∃ X, X = w.alloc (.cells #[.int .i64 i, .slice A1 n1 c1, .slice A2 n2 c2] 51) := ⟨_, rfl⟩
 have BX : Hid (Below w.heap.size w X) := Lib.hid (by rw [hX]; exact (Below.refl _ _).alloc (Nat.le_refl _) _)
 have XX : X.heap[w.heap.size]? = some (.cells #[.int .i64 i, .slice A1 n1 c1, .slice A2 n2 c2] 51 (0, 0)) := by rw [hX]; exact heap_alloc_new w _
 have XL := lt_of_block XX
 have ZC := Lib.hid (zero27_any i A1 n1 c1 A2 n2 c2 X)
 generalize hzz : (decide (i = 0) && (decide (n1 = 0) && decide (n2 = 0))) = z at *
 clear hzz
 have x0 := load_block (i := 0) XX rfl
 have x1 := load_block (i := 1) XX rfl
 have x2 := load_block (i := 2) XX rfl
 have XXH := Lib.hid XX
 have X0 := Lib.hid hX
 clear hX XX
 go_enter Tryz.func135, Tryz.ntmps135
 go_upto_region 1 with fail
 rw [← X0.out]
 clear X0
 go_wp2_with fail
 (with_reducible refine ZC.out.mono ?_)
 rintro e u1 ⟨rfl, b1⟩
 have B1 : Below w.heap.size w u1 := BX.out.trans (b1.mono BX.out.size)
 have XU := (b1.block _ XL).trans XXH.out
 have y0 := load_block (i := 0) XU rfl
 have y1 := load_block (i := 1) XU rfl
 have y2 := load_block (i := 2) XU rfl
 have BH := Lib.hid B1
 have DA1 := Lib.hid (DA.out u1 B1)
 have DB1 := Lib.hid (DB.out u1 B1)
 clear x0 x1 x2 XXH ZC b1 BX DA DB XU B1
 cases z
 case true =>
  have PF : Hid (R = true) := Lib.hid (by rw [FE.out, Bool.true_or])
  clear FE
  go_wp2_with fail
  go_ret
  exact ⟨by rw [PF.out]; rfl, BH.out⟩
 have FE := Lib.hid (FE.out.trans (Bool.false_or _))
 by_cases h : 0 ≤ i
 case neg =>
  have f0 : decide ((0 : Int) ≤ i) = false := decide_eq_false h
  have PF : Hid (R = false) := Lib.hid (by rw [FE.out, decide_eq_false h]; simp)
  clear h FE
  go_wp2_with fail
  go_ret
  exact ⟨by rw [PF.out]; rfl, BH.out⟩
 have f0 : decide ((0 : Int) ≤ i) = true := decide_eq_true h
 have FE := Lib.hid (FE.out.trans (by rw [decide_eq_true h, Bool.true_and]))
 clear h
 by_cases h : i ≤ 255
 case neg =>
  have f1 : decide (i ≤ 255) = false := decide_eq_false h
  have PF : Hid (R = false) := Lib.hid (by rw [FE.out, decide_eq_false h]; simp)
  clear h FE
  go_wp2_with fail
  go_ret
  exact ⟨by rw [PF.out]; rfl, BH.out⟩
 have f1 : decide (i ≤ 255) = true := decide_eq_true h
 have FE := Lib.hid (FE.out.trans (by rw [decide_eq_true h, Bool.true_and]))
 clear h
 by_cases h : n1 = 18
 case neg =>
  have f2 : ((n1 : Int) == 18) = false := by simp; omega
  have PF : Hid (R = false) := Lib.hid (by rw [FE.out, decide_eq_false h]; simp)
  clear h FE
  go_wp2_with fail
  go_ret
  exact ⟨by rw [PF.out]; rfl, BH.out⟩
 have f2 : ((n1 : Int) == 18) = true := by simp; omega
 have FE := Lib.hid (FE.out.trans (by rw [decide_eq_true h, Bool.true_and]))
 clear h
 by_cases h : n2 ≤ 8
 case neg =>
  have f3 : decide ((n2 : Int) ≤ 8) = false := decide_eq_false (by omega)
  have PF : Hid (R = false) := Lib.hid (by rw [FE.out, decide_eq_false h]; simp)
  clear h FE
  go_wp2_with fail
  go_ret
  exact ⟨by rw [PF.out]; rfl, BH.out⟩
 have f3 : decide ((n2 : Int) ≤ 8) = true := decide_eq_true (by omega)
 have FE := Lib.hid (FE.out.trans (by rw [decide_eq_true h, Bool.true_and]))
 clear h
 go_wp2_with fail
 (with_reducible refine DA1.out.mono ?_)
 rintro e u2 ⟨rfl, rfl⟩
 clear DA1
 cases qa
 case false =>
  have PF : Hid (R = false) := Lib.hid (by rw [FE.out]; rfl)
  clear FE
  go_wp2_with fail
  go_ret
  exact ⟨by rw [PF.out]; rfl, BH.out⟩
 have FE := Lib.hid (FE.out.trans (Bool.true_and _))
 go_wp2_with fail
 (with_reducible refine DB1.out.mono ?_)
 rintro e u3 ⟨rfl, rfl⟩
 clear DB1
 go_wp2_with fail
 go_ret
 exact ⟨by rw [FE.out]; cases qb <;> rfl, BH.out⟩
end Go.Proofs.YtniklmikdkjgiaaGreatDoor
namespace Go.Proofs.YtniklmikdkjgiaaGreatDoor
open Go.RowKit
def priv27 (p : Pr) : Bool := decide (p.name.length ≤ 200) && (decide (p.reason.length ≤ 200) && (decide (p.sources.length ≤ 16) && (decide (p.trace.length ≤ 200) && (formedS p.sla && (p.sources.all (fun s => decide (s.length ≤ 200)) && p.trace.all (fun t => At.onB t.1 t.2))))))
theorem pts_at27 {w : World} {A : Option Addr} {l : List Pt} (h : Rd w A (ptsL l)) {k : Nat} (hk : k < l.length) : ∃ b off, A = some ⟨b, off, none⟩ ∧ b < w.heap.size ∧ w.cell? ⟨b, off + k * 2, none⟩ = some (.int .i64 l[k].1) ∧ w.cell? ⟨b, off + k * 2 + 1, none⟩ = some (.int .i64 l[k].2) := by
 have hl : (ptsL l).length = l.length * 2 := flat_len ptL 2 (fun _ => rfl) l
 obtain ⟨b, off, e, hb, hc⟩ := h (by rw [hl]; omega)
 refine ⟨b, off, e, hb, ?_, ?_⟩
 ·have := hc (k * 2 + 0) _ (flat_get ptL 2 (fun _ => rfl) hk (i := 0) rfl)
  rwa [← Nat.add_assoc, Nat.add_zero] at this
 ·have := hc (k * 2 + 1) _ (flat_get ptL 2 (fun _ => rfl) hk (i := 1) rfl)
  rwa [← Nat.add_assoc] at this
theorem private27_any (r : RV) (w : World) (h : RvIs w r) (hs : RcSz r.c) :
  Calls Tryz.prog 136 #[.agg (prL r).toArray] w fun e w' => e = .returned (.bool (priv27 r.c.priv)) ∧ Below w.heap.size w w' := by
 have FE : Hid (priv27 r.c.priv = (decide (r.name.length ≤ 200) && (decide (r.reason.length ≤ 200) && (decide (r.sources.length ≤ 16) && (decide (r.trace.length ≤ 200) && (formedS r.pseal.c && (r.sources.all (fun s => decide (s.length ≤ 200)) && r.trace.all (fun t => At.onB t.1 t.2)))))))) := Lib.hid rfl
 obtain ⟨A4, c4, v4, r4⟩ := h.so
 obtain ⟨A5, c5, v5, r5⟩ := h.tr
 obtain ⟨⟨A6, c6, v6, -⟩, ⟨A7, c7, v7, -⟩⟩ := id h.ps
 have e : prL r = [.string (mkB r.name), .string (mkB r.reason), .slice A4 r.sources.length c4, .slice A5 r.trace.length c5, .int .i64 r.pseal.index, .slice A6 r.pseal.sig.length c6, .slice A7 r.pseal.path.length c7] := by unfold prL; rw [v4, v5, v6, v7]
 rw [e]
 have z1 : r.name.length ≤ 1000000 := hs.name
 have z2 : r.reason.length ≤ 1000000 := hs.reason
 have z4 : r.sources.length ≤ 1000000 := hs.sources
 have z5 : r.trace.length ≤ 1000000 := hs.trace
 have ZS : Hid (∀ s ∈ r.sources, s.length ≤ 1000000) := Lib.hid hs.source
 have m1 := mkB_len r.name
 have m2 := mkB_len r.reason
 obtain ⟨X, hX⟩ : ∃ X, X = w.alloc (.cells #[.string (mkB r.name), .string (mkB r.reason), .slice A4 r.sources.length c4, .slice A5 r.trace.length c5, .int .i64 r.pseal.index, .slice A6 r.pseal.sig.length c6, .slice A7 r.pseal.path.length c7] 54) := ⟨_, rfl⟩
 have BX : Below w.heap.size w X := by rw [hX]; exact (Below.refl _ _).alloc (Nat.le_refl _) _
 have XX : X.heap[w.heap.size]? = some (.cells #[.string (mkB r.name), .string (mkB r.reason), .slice A4 r.sources.length c4, .slice A5 r.trace.length c5, .int .i64 r.pseal.index, .slice A6 r.pseal.sig.length c6, .slice A7 r.pseal.path.length c7] 54 (0, 0)) := by rw [hX]; exact heap_alloc_new w _
 have XL := lt_of_block XX
 have FO : Hid (Calls Tryz.prog 135 #[.agg #[.int .i64 r.pseal.index, .slice A6 r.pseal.sig.length c6, .slice A7 r.pseal.path.length c7]] X fun e w' => e = .returned (.bool (formedS r.pseal.c)) ∧ Below X.heap.size X w') := Lib.hid (by
  have := formed27_any r.pseal X (h.ps.below BX) hs.pseal
  unfold slL at this
  rw [v6, v7] at this
  exact this)
 have R4 : Hid (∀ u, OldB X u → Rd u A4 (strsC r.sources)) := Lib.hid (fun u hu => r4.below (BX.trans (Below.mono hu BX.size)))
 have R5 : Hid (∀ u, OldB X u → Rd u A5 (ptsL r.trace)) := Lib.hid (fun u hu => r5.below (BX.trans (Below.mono hu BX.size)))
 have CX : Hid (∀ u, OldB X u → u.heap[w.heap.size]? = some (.cells #[.string (mkB r.name), .string (mkB r.reason), .slice A4 r.sources.length c4, .slice A5 r.trace.length c5, .int .i64 r.pseal.index, .slice A6 r.pseal.sig.length c6, .slice A7 r.pseal.path.length c7] 54 (0, 0))) := Lib.hid (fun u hu => (hu.block _ XL).trans XX)
 have x0 := load_block (i := 0) XX rfl
 have x1 := load_block (i := 1) XX rfl
 have x2 := load_block (i := 2) XX rfl
 have x3 := load_block (i := 3) XX rfl
 have x4 := load_block (i := 4) XX rfl
 have x5 := load_block (i := 5) XX rfl
 have x6 := load_block (i := 6) XX rfl
 have BH := Lib.hid BX
 have X0 := Lib.hid hX
 generalize priv27 r.c.priv = R at *
 generalize formedS r.pseal.c = fo at *
 generalize r.pseal.index = px at *
 generalize r.pseal.sig.length = pn at *
 generalize r.pseal.path.length = pm at *
 obtain ⟨ns, hns⟩ : ∃ ns, r.sources.length = ns := ⟨_, rfl⟩
 obtain ⟨nt, hnt⟩ : ∃ nt, r.trace.length = nt := ⟨_, rfl⟩
 have NS := Lib.hid hns
 have NT := Lib.hid hnt
 rw [hns] at x2 z4 CX X0 ⊢
 rw [hnt] at x3 z5 CX X0 ⊢
 simp only [hns, hnt] at FE
 clear h hs e v4 v5 v6 v7 r4 r5 hX XX BX hns hnt XL
 go_enter Tryz.func136, Tryz.ntmps136
 go_upto_region 1 with fail
 rw [← X0.out]
 clear X0
 by_cases h : r.name.length ≤ 200
 case neg =>
  have g : decide ((200 : Int) < ((r.name.length : Nat) : Int)) = true := decide_eq_true (by omega)
  have g2 : (200 : Int) < ((r.name.length : Nat) : Int) := by omega
  have PF : Hid (R = false) := Lib.hid (by rw [FE.out, decide_eq_false h]; simp)
  clear h FE
  go_wp2_with fail
  go_ret
  exact ⟨by rw [PF.out]; rfl, BH.out⟩
 have g0 : decide ((200 : Int) < ((r.name.length : Nat) : Int)) = false := decide_eq_false (by omega)
 have k0 : ¬ (200 : Int) < ((r.name.length : Nat) : Int) := by omega
 have FE := Lib.hid (FE.out.trans (by rw [decide_eq_true h, Bool.true_and]))
 clear h
 by_cases h : r.reason.length ≤ 200
 case neg =>
  have g : decide ((200 : Int) < ((r.reason.length : Nat) : Int)) = true := decide_eq_true (by omega)
  have g2 : (200 : Int) < ((r.reason.length : Nat) : Int) := by omega
  have PF : Hid (R = false) := Lib.hid (by rw [FE.out, decide_eq_false h]; simp)
  clear h FE
  go_wp2_with fail
  go_ret
  exact ⟨by rw [PF.out]; rfl, BH.out⟩
 have g1 : decide ((200 : Int) < ((r.reason.length : Nat) : Int)) = false := decide_eq_false (by omega)
 have k1 : ¬ (200 : Int) < ((r.reason.length : Nat) : Int) := by omega
 have FE := Lib.hid (FE.out.trans (by rw [decide_eq_true h, Bool.true_and]))
 clear h
 by_cases h : ns ≤ 16
 case neg =>
  have g : decide ((16 : Int) < (ns : Int)) = true := decide_eq_true (by omega)
  have g2 : (16 : Int) < (ns : Int) := by omega
  have PF : Hid (R = false) := Lib.hid (by rw [FE.out, decide_eq_false h]; simp)
  clear h FE
  go_wp2_with fail
  go_ret
  exact ⟨by rw [PF.out]; rfl, BH.out⟩
 have g2 : decide ((16 : Int) < (ns : Int)) = false := decide_eq_false (by omega)
 have k2 : ¬ (16 : Int) < (ns : Int) := by omega
 have FE := Lib.hid (FE.out.trans (by rw [decide_eq_true h, Bool.true_and]))
 clear h
 by_cases h : nt ≤ 200
 case neg =>
  have g : decide ((200 : Int) < (nt : Int)) = true := decide_eq_true (by omega)
  have g2 : (200 : Int) < (nt : Int) := by omega
  have PF : Hid (R = false) := Lib.hid (by rw [FE.out, decide_eq_false h]; simp)
  clear h FE
  go_wp2_with fail
  go_ret
  exact ⟨by rw [PF.out]; rfl, BH.out⟩
 have g3 : decide ((200 : Int) < (nt : Int)) = false := decide_eq_false (by omega)
 have k3 : ¬ (200 : Int) < (nt : Int) := by omega
 have FE := Lib.hid (FE.out.trans (by rw [decide_eq_true h, Bool.true_and]))
 clear h
 go_wp2_with fail
 (with_reducible refine FO.out.mono ?_)
 rintro e u1 ⟨rfl, b1⟩
 have O1 : OldB X u1 := b1
 have CU := CX.out u1 O1
 have B1 := Lib.hid (BH.out.trans (b1.mono BH.out.size))
 clear b1 FO x0 x1 x2 x3 x4 x5 x6 BH
 cases fo
 case false =>
  have PF : Hid (R = false) := Lib.hid (by rw [FE.out]; rfl)
  clear FE
  go_wp2_with fail
  go_ret
  exact ⟨by rw [PF.out]; rfl, B1.out⟩
 have FE := Lib.hid (FE.out.trans (Bool.true_and _))
 have y2 := load_block (i := 2) CU rfl
 have F0 : Hid (R = ((r.sources.drop 0).all (fun s => decide (s.length ≤ 200)) && r.trace.all (fun t => At.onB t.1 t.2))) := Lib.hid FE.out
 go_wp2_with fail
 go_loopw [3] (fun s3 wr => ∃ k : Nat, k ≤ ns ∧ s3 = .int .i64 (k : Int) ∧ Hid (R = ((r.sources.drop k).all (fun s => decide (s.length ≤ 200)) && r.trace.all (fun t => At.onB t.1 t.2))) ∧ Hid (wr = u1)) (fun i _ => ns - (intOf i).toNat)
 case atStart => exact ⟨0, Nat.zero_le _, rfl, F0, Lib.hid rfl⟩
 case round =>
  clear F0 FE
  obtain ⟨k, hk, rfl, FK, EW⟩ := hrel
  have EW2 := EW.out.symm
  subst EW2
  by_cases hlt : k < ns
  ·have hkl : k < r.sources.length := by rw [NS.out]; exact hlt
   have d1 : (k : Int) < (ns : Int) := by omega
   have d2 : (0 : Int) ≤ (k : Int) := by omega
   obtain ⟨b, off, rfl, hb, c0⟩ := strs_at (R4.out _ O1) hkl
   have RK : Hid (R = ((decide (r.sources[k].length ≤ 200) && (r.sources.drop (k + 1)).all (fun s => decide (s.length ≤ 200))) && r.trace.all (fun t => At.onB t.1 t.2))) := Lib.hid (by rw [FK.out, List.drop_eq_getElem_cons hkl, List.all_cons])
   have zz := ZS.out _ (List.getElem_mem hkl)
   have mz := mkB_len r.sources[k]
   clear FK
   generalize r.sources[k] = s at *
   by_cases h : s.length ≤ 200
   ·have g : decide ((200 : Int) < (s.length : Int)) = false := decide_eq_false (by omega)
    have g' : ¬ (200 : Int) < (s.length : Int) := by omega
    have R2 := Lib.hid (RK.out.trans (by rw [decide_eq_true h, Bool.true_and]))
    clear RK h
    go_wp2_with fail
    exact ⟨⟨k + 1, by omega, by go_num, R2, Lib.hid (by first | rfl | trivial)⟩, by simp [intOf]; omega⟩
   ·have g : decide ((200 : Int) < (s.length : Int)) = true := decide_eq_true (by omega)
    have g' : (200 : Int) < (s.length : Int) := by omega
    have PF : Hid (R = false) := Lib.hid (by rw [RK.out, decide_eq_false h]; rfl)
    clear RK h
    go_wp2_with fail
    go_ret
    exact ⟨by rw [PF.out]; rfl, B1.out⟩
  ·have d1 : ¬ (k : Int) < (ns : Int) := by omega
   have F1 : Hid (R = (r.trace.drop 0).all (fun t => At.onB t.1 t.2)) := Lib.hid (by rw [FK.out, List.drop_eq_nil_of_le (by rw [NS.out]; omega)]; rfl)
   have y3 : ∀ u, OldB u1 u → u.cell? ⟨w.heap.size, 3, none⟩ = some (.slice A5 nt c5) := fun u hu => load_block (i := 3) (CX.out u (O1.then hu)) rfl
   clear FK
   go_wp2_with fail
   go_loopw [4] (fun s4 wq => ∃ k : Nat, k ≤ nt ∧ s4 = .int .i64 (k : Int) ∧ Hid (R = (r.trace.drop k).all (fun t => At.onB t.1 t.2)) ∧ OldB u1 wq) (fun i _ => nt - (intOf i).toNat)
   case atStart => exact ⟨0, Nat.zero_le _, rfl, F1, Below.refl _ _⟩
   case round =>
    clear F1
    obtain ⟨j, hj, rfl, FJ, OQ⟩ := hrel
    have BQ := Lib.hid (B1.out.trans (Below.mono OQ B1.out.size))
    by_cases hjt : j < nt
    ·have hjl : j < r.trace.length := by rw [NT.out]; exact hjt
     have d3 : (j : Int) < (nt : Int) := by omega
     have d4 : (0 : Int) ≤ (j : Int) := by omega
     obtain ⟨b, off, rfl, hb, p0, p1⟩ := pts_at27 (R5.out _ (O1.then OQ)) hjl
     have RK : Hid (R = (At.onB r.trace[j].1 r.trace[j].2 && (r.trace.drop (j + 1)).all (fun t => At.onB t.1 t.2))) := Lib.hid (by rw [FJ.out, List.drop_eq_getElem_cons hjl, List.all_cons])
     have ON := Lib.hid (ron_any r.trace[j].1 r.trace[j].2 wr)
     clear FJ
     generalize At.onB r.trace[j].1 r.trace[j].2 = q at *
     generalize r.trace[j].1 = tx at *
     generalize r.trace[j].2 = ty at *
     go_wp2_with fail
     (with_reducible refine ON.out.mono ?_)
     rintro e u3 ⟨rfl, b3⟩
     have O3 : OldB u1 u3 := OQ.then b3
     have B3 := Lib.hid (BQ.out.trans (b3.mono BQ.out.size))
     clear b3 ON
     cases q
     ·have PF : Hid (R = false) := Lib.hid (by rw [RK.out]; rfl)
      clear RK
      go_wp2_with fail
      go_ret
      exact ⟨by rw [PF.out]; rfl, B3.out⟩
     ·have R2 := Lib.hid (RK.out.trans (Bool.true_and _))
      clear RK
      go_wp2_with fail
      exact ⟨⟨j + 1, by omega, by go_num, R2, O3⟩, by simp [intOf]; omega⟩
    ·have d3 : ¬ (j : Int) < (nt : Int) := by omega
     have PF : Hid (R = true) := Lib.hid (by rw [FJ.out, List.drop_eq_nil_of_le (by rw [NT.out]; omega)]; rfl)
     clear FJ
     go_wp2_with fail
     go_ret
     exact ⟨by rw [PF.out]; rfl, BQ.out⟩
end Go.Proofs.YtniklmikdkjgiaaGreatDoor
namespace Go.Proofs.YtniklmikdkjgiaaGreatDoor
open Go.RowKit
def upTo (l : List Tx) (k : Nat) : Bool := (List.range k).all fun i => At.lt (l.getD i []) (l.getD (i + 1) [])
theorem upTo_succ (l : List Tx) (k : Nat) : upTo l (k + 1) = (upTo l k && At.lt (l.getD k []) (l.getD (k + 1) [])) := by
 unfold upTo; rw [List.range_succ, List.all_append]; simp
theorem keeps_getD (l : List Tx) (j : Nat) : Lib.keeps l.toArray j = decide (j = 0 ∨ l.getD j [] ≠ l.getD (j - 1) []) := by
 unfold Lib.keeps
 have g : ∀ k, l.toArray[k]! = l.getD k [] := by
  intro k
  rw [List.getElem!_toArray, List.getElem!_eq_getElem?_getD, List.getD_eq_getElem?_getD]; rfl
 rw [g, g]
theorem inc_iff (l : List Tx) : incB l = true ↔ ∀ i, i + 1 < l.length → At.lt (l.getD i []) (l.getD (i + 1) []) = true := by
 have C : (Lib.compact l).length = l.length ↔ ∀ j, j < l.length → Lib.keeps l.toArray j = true := by
  unfold Lib.compact Lib.compactUpTo
  rw [List.length_map]
  have := List.length_filter_eq_length_iff (p := Lib.keeps l.toArray) (l := List.range l.length)
  rw [List.length_range] at this
  rw [this]
  exact ⟨fun h j hj => h j (List.mem_range.2 hj), fun h j hj => h j (List.mem_range.1 hj)⟩
 unfold incB sortedT srtUp
 rw [Bool.and_eq_true, decide_eq_true_eq, C, List.all_eq_true]
 constructor
 ·rintro ⟨h1, h2⟩ i hi
  have a := h1 i (List.mem_range.2 (by omega))
  have b := h2 (i + 1) hi
  rw [keeps_getD, decide_eq_true_eq] at b
  rcases b with b | b
  ·omega
  rw [Nat.add_sub_cancel] at b
  rcases At.lt_total b with c | c
  ·rw [c] at a; cases a
  ·exact c
 ·intro h
  constructor
  ·intro i hi
   rw [At.lt_asymm (h i (by have := List.mem_range.1 hi; omega))]; rfl
  ·intro j hj
   rw [keeps_getD, decide_eq_true_eq]
   cases j with
   | zero => exact .inl rfl
   | succ j => exact .inr (At.lt_ne (h j hj)).symm
theorem upTo_iff (l : List Tx) (k : Nat) : upTo l k = true ↔ ∀ i, i < k → At.lt (l.getD i []) (l.getD (i + 1) []) = true := by
 unfold upTo; rw [List.all_eq_true]
 exact ⟨fun h i hi => h i (List.mem_range.2 hi), fun h i hi => h i (List.mem_range.1 hi)⟩
theorem inc_bad {l : List Tx} {k : Nat} (hk : k + 1 < l.length) (h : At.lt (l.getD k []) (l.getD (k + 1) []) = false) : incB l = false := by
 cases e : incB l
 ·rfl
 ·have := (inc_iff l).1 e k hk; rw [h] at this; cases this
theorem inc_good {l : List Tx} {k : Nat} (h : upTo l k = true) (hk : ¬ k + 1 < l.length) : incB l = true := by
 rw [inc_iff]; intro i hi; exact (upTo_iff l k).1 h i (by omega)
def own27 (c : Rc) : Bool :=
 (if c.kind = 1 ∨ (c.kind = 3 ∧ c.order = 3) then decide ((changeTextF c.edits).2 = 0) else decide (c.edits.length = 0))
 && ((if c.kind = 2 ∨ c.kind = 3 then Dg.isD c.target else decide (c.target = []))
 && ((if c.kind = 3 then decide (1 ≤ c.order) && decide (c.order ≤ 4) else decide (c.order = 0))
 && ((if c.kind = 4 then At.nameB c.frm && !decide (c.frm = c.branch) else decide (c.frm = []))
 && (decide (c.kind = 2) || !c.yes))))
theorem text_one (l : List Ed) : decide ((changeTextF l).2 = 0) = (decide (0 < l.length) && (rtextF l).2) := by
 unfold rtextF
 by_cases h : l.length = 0
 ·rw [if_pos h]
  unfold changeTextF validC
  rw [h]; simp
 ·rw [if_neg h, decide_eq_true (by omega : 0 < l.length)]; rfl
theorem text_none {l : List Ed} (h : l.length = 0) : (rtextF l).2 = true := by unfold rtextF; rw [if_pos h]
theorem kind_own (c : Rc) : ((rtextF c.edits).2 && kindR c) = (decide (1 ≤ c.kind ∧ c.kind ≤ 5) && own27 c) := by
 unfold own27
 rw [text_one]
 unfold kindR
 have E : c.edits.length = 0 ∨ 0 < c.edits.length := by omega
 have T : c.edits.length = 0 → (rtextF c.edits).2 = true := text_none
 generalize (rtextF c.edits).2 = t at *
 unfold finR inB
 by_cases h1 : c.kind = 1
 ·simp only [h1, if_true, true_or, Int.reduceEq, or_self, if_false]
  rcases E with e | e
  ·simp [e]
  ·simp [e]; cases t <;> simp <;> (rw [Bool.eq_iff_iff]; simp; constructor <;> (intro h; simp_all))
 by_cases h2 : c.kind = 2
 ·simp only [h2, Int.reduceEq, if_true, if_false, true_or, false_and, or_self]
  rcases E with e | e
  ·simp [e, T e]; rw [Bool.eq_iff_iff]; simp; constructor <;> (intro h; simp_all)
  ·have n2 : ¬ c.edits = [] := fun hh => by rw [hh] at e; simp at e
   simp [e, n2]
 by_cases h3 : c.kind = 3
 ·simp only [h3, Int.reduceEq, if_true, if_false, or_true, true_and, false_or]
  by_cases ho : c.order = 3
  ·rcases E with e | e
   ·simp [e, ho]
   ·simp [e, ho]; cases t <;> simp <;> (rw [Bool.eq_iff_iff]; simp; constructor <;> (intro h; simp_all))
  ·rcases E with e | e
   ·simp [e, ho, T e]; rw [Bool.eq_iff_iff]; simp; constructor <;> (intro h; simp_all)
   ·have n : ¬ c.edits.length = 0 := by omega
    simp [e, ho]
    have n2 : ¬ c.edits = [] := fun hh => n (by rw [hh]; rfl)
    simp [n2]
    intro _ _ _ _ _ h; exact absurd h ho
 by_cases h4 : c.kind = 4
 ·simp only [h4, Int.reduceEq, if_true, if_false, false_and, or_self]
  rcases E with e | e
  ·simp [e, T e]; rw [Bool.eq_iff_iff]; simp; constructor <;> (intro h; simp_all)
  ·have n2 : ¬ c.edits = [] := fun hh => by rw [hh] at e; simp at e
   simp [e, n2]
 by_cases h5 : c.kind = 5
 ·simp only [h5, Int.reduceEq, if_true, if_false, false_and, or_self]
  rcases E with e | e
  ·simp [e, T e]; rw [Bool.eq_iff_iff]; simp; constructor <;> (intro h; simp_all)
  ·have n2 : ¬ c.edits = [] := fun hh => by rw [hh] at e; simp at e
   simp [e, n2]
 ·rw [if_neg h1, if_neg h2, if_neg h3, if_neg h4, if_neg h5, decide_eq_false (by omega)]; simp
theorem off_on (p : Pt) : (!offB p) = At.onB p.1 p.2 := by
 unfold offB inB At.onB
 rw [Bool.eq_iff_iff]; simp; omega
theorem short_all (l : List Tx) : shortB l = l.all (fun s => decide (s.length ≤ 200)) := by
 unfold shortB
 rw [Bool.eq_iff_iff]; simp
theorem trace_all (l : List Pt) : (!l.any offB) = l.all (fun t => At.onB t.1 t.2) := by
 rw [Bool.eq_iff_iff]
 simp [← off_on]
def r27V (c : Rc) : Bool :=
 (decide (1 ≤ c.kind) && (decide (c.kind ≤ 5) && (decide (0 ≤ c.author) && (decide (c.author ≤ 59) && (decide (1 ≤ c.number) && (decide (c.number ≤ 128) && (decide (1 ≤ c.clock) && (decide (c.clock ≤ 1000000) && (At.nameB c.branch && (decide (c.parents.length ≤ 16) && c.parents.all Dg.isD))))))))))
 && (incB c.parents && (own27 c && (formedS c.sla && priv27 c.priv)))
theorem r27_eq (c : Rc) : r27V c = validR c := by
 have K := kind_own c
 have e1 : validR c = (!(c.priv.trace.any offB || !shortB [c.priv.name, c.priv.reason] || !shortB c.priv.sources || decide (16 < c.priv.sources.length) || decide (200 < c.priv.trace.length) || !formedS c.priv.sla || !formedS c.sla)
 && !(!inB c.author 0 59 || !inB c.number 1 128 || !inB c.clock 1 1000000 || !At.nameB c.branch || decide (16 < c.parents.length) || !c.parents.all Dg.isD || !incB c.parents)
 && (decide (1 ≤ c.kind ∧ c.kind ≤ 5) && own27 c)) := by rw [← K, ← Bool.and_assoc]; rfl
 rw [e1]
 unfold r27V priv27
 have t := trace_all c.priv.trace
 rw [short_all, short_all]
 have t2 : c.priv.trace.any offB = !(c.priv.trace.all (fun t => At.onB t.1 t.2)) := by rw [← t]; simp
 rw [t2]
 generalize c.priv.trace.all (fun t => At.onB t.1 t.2) = b1
 generalize c.priv.sources.all (fun s => decide (s.length ≤ 200)) = b2
 generalize own27 c = b3
 generalize incB c.parents = b4
 generalize formedS c.sla = b5
 generalize formedS c.priv.sla = b6
 generalize c.parents.all Dg.isD = b7
 generalize At.nameB c.branch = b8
 unfold inB
 rw [Bool.eq_iff_iff]
 simp only [Bool.and_eq_true, Bool.not_eq_true', Bool.or_eq_false_iff, Bool.not_eq_false', decide_eq_true_eq, decide_eq_false_iff_not, List.all_cons, List.all_nil]
 constructor
 ·rintro ⟨⟨a1, a2, a3, a4, a5, a6, a7, a8, a9, a10, a11⟩, a12, a13, a14, a15, a16, a17, a18, a19, a20, a21⟩
  simp_all
 ·rintro ⟨⟨⟨⟨⟨⟨⟨⟨a1, a2⟩, a3⟩, a4⟩, a5⟩, a6⟩, a7⟩, ⟨⟨⟨⟨⟨⟨b1, b2⟩, b3⟩, b4⟩, b5⟩, b6⟩, b7⟩⟩, a8, a9⟩
  simp_all
theorem own_1 {c : Rc} (h : c.kind = 1) : own27 c = (decide ((changeTextF c.edits).2 = 0) && (decide (c.target = []) && (decide (c.order = 0) && (decide (c.frm = []) && !c.yes)))) := by
 unfold own27; simp [h]
theorem own_2 {c : Rc} (h : c.kind = 2) : own27 c = (decide (c.edits.length = 0) && (Dg.isD c.target && (decide (c.order = 0) && (decide (c.frm = []) && true)))) := by
 unfold own27; simp [h]
theorem own_3a {c : Rc} (h : c.kind = 3) (ho : c.order = 3) : own27 c = (decide ((changeTextF c.edits).2 = 0) && (Dg.isD c.target && (decide (c.frm = []) && !c.yes))) := by
 unfold own27; simp [h, ho]
theorem own_3b {c : Rc} (h : c.kind = 3) (ho : ¬ c.order = 3) : own27 c = (decide (c.edits.length = 0) && (Dg.isD c.target && ((decide (1 ≤ c.order) && decide (c.order ≤ 4)) && (decide (c.frm = []) && !c.yes)))) := by
 unfold own27; simp [h, ho]
theorem own_4 {c : Rc} (h : c.kind = 4) : own27 c = (decide (c.edits.length = 0) && (decide (c.target = []) && (decide (c.order = 0) && ((At.nameB c.frm && !decide (c.frm = c.branch)) && !c.yes)))) := by
 unfold own27; simp [h]
theorem own_0 {c : Rc} (h1 : ¬ c.kind = 1) (h2 : ¬ c.kind = 2) (h3 : ¬ c.kind = 3) (h4 : ¬ c.kind = 4) : own27 c = (decide (c.edits.length = 0) && (decide (c.target = []) && (decide (c.order = 0) && (decide (c.frm = []) && !c.yes)))) := by
 unfold own27; simp [h1, h2, h3, h4]
end Go.Proofs.YtniklmikdkjgiaaGreatDoor
