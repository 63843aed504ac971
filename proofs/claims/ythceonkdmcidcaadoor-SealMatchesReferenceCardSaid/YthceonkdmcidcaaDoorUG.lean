/- WALK: the reference's Checked. -/
import Derived.Test.YthceonkdmcidcaaDoorUE
import Derived.Deep.DeepCutAuto
set_option linter.unusedSimpArgs false
set_option linter.unusedVariables false
namespace Go.Proofs.YthceonkdmcidcaaDoor
open Go.RowKit

/-- one list of our own grows: what is kept -/
theorem Own.grow1 {w w' : World} {B : Nat} {g n c : Nat} {X : List (List UInt8)} (h : w'.ownsRow B 9 1 (.slice (some ⟨g, 0, none⟩) n c) n (sv X)) (hn : n = X.length) : Own w' B (.slice (some ⟨g, 0, none⟩) n c) X := ⟨n, hn, h⟩
def ckF (m : List UInt8) (S : List (List UInt8)) (k : Nat) : List (List UInt8) := Sl.chained (15 - (Sl.digs m).getD k 0) (S.getD k [])
theorem ckF_len (m : List UInt8) (S : List (List UInt8)) (k : Nat) : (ckF m S k).length ≤ 16 := by unfold ckF; rw [chained_len]; omega
theorem ck_flat (m : List UInt8) (S : List (List UInt8)) : ∀ k, ((List.range k).flatMap (ckF m S)).length ≤ 16 * k
  | 0 => by simp
  | k + 1 => by
    rw [flat_succ, List.length_append]
    have h1 := ck_flat m S k
    have h2 := ckF_len m S k
    omega
theorem checked_eq (m : List UInt8) (i : Nat) (S p : List (List UInt8)) : Sl.Checked m i S p = (List.range 18).flatMap (ckF m S) ++ (Sl.vkT m S :: Sl.climbT p i (Dg.sumL (Sl.vkT m S))) := by
  unfold Sl.Checked
  congr 1
theorem vends_step {m : List UInt8} {S : List (List UInt8)} {k : Nat} (hk : k < 18) : (Sl.vends m S).take (k + 1) = (Sl.vends m S).take k ++ [Sl.chainF (15 - (Sl.digs m).getD k 0) (S.getD k [])] := by
  rw [List.take_succ_eq_append_getElem (by rw [Sl.vends_len]; exact hk)]
  refine congrArg (fun z => (Sl.vends m S).take k ++ [z]) ?_
  simp only [Sl.vends, List.getElem_map, List.getElem_range]
theorem chain_300 {n : Nat} {t : List UInt8} (h : t.length ≤ 300) : (Sl.chainF n t).length ≤ 300 := by
  cases n with
  | zero => exact h
  | succ n => rw [Sl.chainF_succ, isD_len (Dg.sumL_isD _)]; decide
theorem vends_300 {m : List UInt8} {S : List (List UInt8)} (h : ∀ t ∈ S, t.length ≤ 300) : ∀ t ∈ Sl.vends m S, t.length ≤ 300 := by
  intro t ht
  obtain ⟨k, _, rfl⟩ := List.mem_map.1 ht
  exact chain_300 (getD_300 h k)
theorem climbT_len : ∀ (p : List (List UInt8)) (i : Nat) (a : List UInt8), (Sl.climbT p i a).length = p.length
  | [], _, _ => rfl
  | o :: p, i, a => by rw [Sl.climbT, List.length_cons, climbT_len p, List.length_cons]
theorem drop_cons' {P : List (List UInt8)} {k : Nat} (h : k < P.length) : P.drop k = P.getD k [] :: P.drop (k + 1) := by
  rw [List.drop_eq_getElem_cons h, List.getD_eq_getElem?_getD, List.getElem?_eq_getElem h]; rfl
theorem dv_at {m : List UInt8} {k : Nat} (h : k < 18) : (dv (Sl.digs m))[k]? = some (.int .i64 (((Sl.digs m).getD k 0 : Nat) : Int)) := by
  have hl := Sl.digs_len m
  unfold dv
  rw [List.getElem?_map, List.getElem?_eq_getElem (by omega), List.getD_eq_getElem?_getD, List.getElem?_eq_getElem (by omega)]; rfl
theorem dv_len (m : List UInt8) : (dv (Sl.digs m)).length = 18 := by unfold dv; rw [List.length_map, Sl.digs_len]
/-- two own lists, the third one nil -/
def CkR (W1 wr : World) (B1 : Nat) (m : List UInt8) (S : List (List UInt8)) (k : Nat) (o e : Value) : Prop :=
  R3 wr B1 o e (.slice none 0 0) ((List.range k).flatMap (ckF m S)) ((Sl.vends m S).take k) [] ∧ Below B1 W1 wr
set_option maxRecDepth 100000 in
set_option maxHeartbeats 8000000 in
theorem checked_any (m : ByteArray) (idx : Nat) (A1 A2 : Option Addr) (c1 c2 : Nat) (S P : List (List UInt8)) (w : World) (hm : m.size ≤ 1000000) (hS : S.length = 18) (hP : P.length ≤ 1000) (s1 : ∀ t ∈ S, t.length ≤ 300) (s2 : ∀ t ∈ P, t.length ≤ 300) (hidx : idx ≤ 1000000) (r1 : Rd w A1 (sv S)) (r2 : Rd w A2 (sv P)) (ht : Tab w) :
    Calls Tryd.prog 24 #[.string m, .agg #[.int .i64 (idx : Int), .slice A1 18 c1, .slice A2 P.length c2]] w (OwnP w (Sl.Checked m.data.toList idx S P)) := by
  obtain ⟨B, hB⟩ : ∃ B, w.heap.size = B := ⟨_, rfl⟩
  have HW : Hid (w.heap.size = B) := Lib.hid hB
  obtain ⟨n2, hn2⟩ : ∃ n, P.length = n := ⟨_, rfl⟩
  have N2 := Lib.hid hn2
  rw [hn2] at hP ⊢
  obtain ⟨W0, hW0⟩ : ∃ W0, W0 = w.alloc (.cells #[.int .i64 (idx : Int), .slice A1 18 c1, .slice A2 n2 c2] 24) := ⟨_, rfl⟩
  have Q := Lib.hid (sealIn_mk (idx := (idx : Int)) (A1 := A1) (A2 := A2) (n1 := 18) (c1 := c1) (n2 := n2) (c2 := c2) hB hW0 ht r1 r2)
  have S1 := Lib.hid s1; have S2 := Lib.hid s2
  have DA := Lib.hid (rdigs_any m W0 hm)
  have HS := Lib.hid hS
  clear hn2 r1 r2 s1 s2 ht hS
  go_enter Tryd.func24, Tryd.ntmps24
  go_wp2_with fail
  rw [← hW0]
  clear hW0 hB
  refine DA.out.mono ?_
  rintro e W1 ⟨Ad, cd, rfl, rd, hb1⟩
  have B1' := Lib.hid (Q.out.next _ _ (Below.refl _ _) hb1)
  obtain ⟨B1, hB1⟩ : ∃ B1, W1.heap.size = B1 := ⟨_, rfl⟩
  have hBB : B + 1 ≤ B1 := by rw [← hB1]; exact Q.out.sz _ B1'.out
  have KD : Hid (∀ u, Below B1 W1 u → Rd u Ad (dv (Sl.digs m.data.toList))) := Lib.hid (fun u hu => rd.below (hB1 ▸ hu))
  have KQ : Hid (∀ u, Below B1 W1 u → Below (B + 1) W0 u) := Lib.hid (fun u hu => B1'.out.trans (hu.mono hBB))
  have ST : Hid (CkR W1 W1 B1 m.data.toList S 0 (.slice none 0 0) (.slice none 0 0)) := Lib.hid ⟨R3.start _ _, Below.refl _ _⟩
  have HB1 := Lib.hid hB1
  clear rd hb1 hB1 DA B1'
  go_wp2_with fail
  go_loopw [6, 7, 8] (fun o e k' wr => ∃ (k : Nat) (vo ve : Value), k ≤ 18 ∧ k' = .int .i64 k ∧ vo = o ∧ ve = e ∧ Hid (CkR W1 wr B1 m.data.toList S k vo ve)) (fun _ _ k' _ => 18 - (intOf k').toNat)
  case atStart => exact ⟨0, _, _, by omega, rfl, rfl, rfl, ST⟩
  case round =>
    clear ST
    obtain ⟨k, vo, ve, hk, rfl, rfl, rfl, hck⟩ := hrel
    have RR := Lib.hid hck.out.1; have BL := Lib.hid hck.out.2
    clear hck
    have hsz : B1 ≤ wr.heap.size := by have := BL.out.size; rw [HB1.out] at this; exact this
    obtain ⟨no, hno, oo⟩ := RR.out.oa
    obtain ⟨Ao, co, rfl, -, -⟩ := own_form oo
    obtain ⟨ne, hne, oe⟩ := RR.out.ob
    obtain ⟨Ae, ce, rfl, -, -⟩ := own_form oe
    have lo : no ≤ 400 := by have := ck_flat m.data.toList S k; rw [hno]; omega
    have HNO := Lib.hid hno; have HNE := Lib.hid hne
    clear oo oe hno hne
    obtain ⟨x0, x1, x2⟩ := cells3 (Q.out.blk _ (KQ.out _ BL.out))
    by_cases hk18 : k < 18
    · have d1 : (k : Int) < 18 := by omega
      have le : ne ≤ 18 := by rw [HNE.out, List.length_take]; omega
      have LF : Hid ((List.range (k + 1)).flatMap (ckF m.data.toList S) = (List.range k).flatMap (ckF m.data.toList S) ++ Sl.chained (15 - (Sl.digs m.data.toList).getD k 0) (S.getD k [])) := Lib.hid (flat_succ _ _)
      have ES : Hid ((Sl.vends m.data.toList S).take (k + 1) = (Sl.vends m.data.toList S).take k ++ [Sl.chainF (15 - (Sl.digs m.data.toList).getD k 0) (S.getD k [])]) := Lib.hid (vends_step hk18)
      obtain ⟨b, off, rfl, hb, hcell⟩ := (Q.out.r1 _ (KQ.out _ BL.out)) (by rw [sv_len, HS.out]; decide)
      have hc := hcell k _ (getD_at (by rw [HS.out]; exact hk18))
      clear hcell
      obtain ⟨bd, fd, eAd, hbd, hcd⟩ := (KD.out _ (Below.refl _ _)) (by rw [dv_len]; decide)
      subst eAd
      have hd := hcd k _ (dv_at hk18)
      rw [HB1.out] at hbd
      have ly := getD_300 S1.out k
      have ld := Sl.digs_le m.data.toList k
      clear hcd
      generalize S.getD k [] = y at *
      generalize (Sl.digs m.data.toList).getD k 0 = dk at *
      obtain ⟨e, he⟩ : ∃ e, 15 - dk = e := ⟨_, rfl⟩
      rw [he] at LF ES
      have wv : IntKind.i64.wrap (15 - (dk : Int)) = (e : Int) := by rw [IntWalk.i64_in _ (by omega)]; omega
      have le15 : e ≤ 15 := by omega
      have D0 : ∀ w', Below B1 W1 w' → w'.cell? ⟨bd, fd + k, none⟩ = some (.int .i64 (dk : Int)) := fun w' h => (h.cell (p := ⟨bd, fd + k, none⟩) hbd).trans hd
      have C1 : ∀ w', Below wr.heap.size wr w' → w'.cell? ⟨B, 1, none⟩ = some (.slice (some ⟨b, off, none⟩) 18 c1) := fun w' h => (h.cell (p := ⟨B, 1, none⟩) (by show B < wr.heap.size; omega)).trans x1
      have C2 : ∀ w', Below wr.heap.size wr w' → w'.cell? ⟨b, off + k, none⟩ = some (.string (mkB y)) := fun w' h => (h.cell (p := ⟨b, off + k, none⟩) hb).trans hc
      have C3 : ∀ w', Below wr.heap.size wr w' → w'.cell? ⟨bd, fd + k, none⟩ = some (.int .i64 (dk : Int)) := fun w' h => D0 w' (BL.out.trans (h.mono hsz))
      have RC := Lib.hid (fun u => rchained_any (mkB y) e (e : Int) u rfl (by omega) (by rw [mkB_size]; omega))
      rw [mkB_list] at RC
      clear he hd x0 x2
      go_wp2_with fail
      (refine wp_region_noPanic ?_; refine wp_region_held_drew (S := (fun w' => Below wr.heap.size wr w')) (by kernel_rfl) ?_ (fun hHeld => ?_); exact ((Below.refl _ _).drew))
      (refine wpAnyH_take (i := 0) (oi := _) (v := ?_) rfl (by kernel_rfl) (by kernel_rfl) (by kernel_rfl) (fun _ _ _ h => h) (Or.inl ⟨?_, ?_⟩) (by assumption) ?_; rotate_left; (focus (first | rfl | (simp [Region.wanted, yielded]; done))); (focus (intro w hSw; (try dsimp only at hSw); go_simp; all_goals (with_reducible rfl))); try simp only [Act.put, List.getElem_toArray, List.getElem_cons_zero, List.getElem_cons_succ, List.setIfInBounds_toArray, List.set_cons_zero, List.set_cons_succ])
      (refine wpAnyH_take (i := 1) (oi := _) (v := ?_) rfl (by kernel_rfl) (by kernel_rfl) (by kernel_rfl) (fun _ _ _ h => h) (Or.inl ⟨?_, ?_⟩) (by assumption) ?_; rotate_left; (focus (first | rfl | (simp [Region.wanted, yielded]; done))); (focus (intro w hSw; (try dsimp only at hSw); go_simp; all_goals (with_reducible rfl))); try simp only [Act.put, List.getElem_toArray, List.getElem_cons_zero, List.getElem_cons_succ, List.setIfInBounds_toArray, List.set_cons_zero, List.set_cons_succ])
      (refine wpAnyH_take (i := 2) (oi := _) (v := ?_) rfl (by kernel_rfl) (by kernel_rfl) (by kernel_rfl) (fun _ _ _ h => h) (Or.inl ⟨?_, ?_⟩) (by assumption) ?_; rotate_left; (focus (first | rfl | (simp [Region.wanted, yielded]; done))); (focus (intro w hSw; (try dsimp only at hSw); go_simp; all_goals (with_reducible rfl))); try simp only [Act.put, List.getElem_toArray, List.getElem_cons_zero, List.getElem_cons_succ, List.setIfInBounds_toArray, List.set_cons_zero, List.set_cons_succ])
      (refine wpAnyH_take (i := 3) (oi := _) (v := ?_) rfl (by kernel_rfl) (by kernel_rfl) (by kernel_rfl) (fun _ _ _ h => h) (Or.inl ⟨?_, ?_⟩) (by assumption) ?_; rotate_left; (focus (first | rfl | (simp [Region.wanted, yielded]; done))); (focus (intro w hSw; (try dsimp only at hSw); go_simp; all_goals (with_reducible rfl))); try simp only [Act.put, List.getElem_toArray, List.getElem_cons_zero, List.getElem_cons_succ, List.setIfInBounds_toArray, List.set_cons_zero, List.set_cons_succ])
      (refine wpAnyH_take (i := 4) (oi := _) (v := ?_) rfl (by kernel_rfl) (by kernel_rfl) (by kernel_rfl) (fun _ _ _ h => h) (Or.inl ⟨?_, ?_⟩) (by assumption) ?_; rotate_left; (focus (first | rfl | (simp [Region.wanted, yielded]; done))); (focus (intro w hSw; (try dsimp only at hSw); go_simp; all_goals (with_reducible rfl))); try simp only [Act.put, List.getElem_toArray, List.getElem_cons_zero, List.getElem_cons_succ, List.setIfInBounds_toArray, List.set_cons_zero, List.set_cons_succ])
      (refine wpAnyH_take (i := 5) (oi := _) (v := ?_) rfl (by kernel_rfl) (by kernel_rfl) (by kernel_rfl) (fun _ _ _ h => h) (Or.inl ⟨?_, ?_⟩) (by assumption) ?_; rotate_left; (focus (first | rfl | (simp [Region.wanted, yielded]; done))); (focus (intro w hSw; (try dsimp only at hSw); go_simp; all_goals (with_reducible rfl))); try simp only [Act.put, List.getElem_toArray, List.getElem_cons_zero, List.getElem_cons_succ, List.setIfInBounds_toArray, List.set_cons_zero, List.set_cons_succ])
      (refine wpAnyH_take (i := 6) (oi := _) (v := ?_) rfl (by kernel_rfl) (by kernel_rfl) (by kernel_rfl) (fun _ _ _ h => h) (Or.inl ⟨?_, ?_⟩) (by assumption) ?_; rotate_left; (focus (first | rfl | (simp [Region.wanted, yielded]; done))); (focus (intro w hSw; (try dsimp only at hSw); go_simp; all_goals (with_reducible rfl))); try simp only [Act.put, List.getElem_toArray, List.getElem_cons_zero, List.getElem_cons_succ, List.setIfInBounds_toArray, List.set_cons_zero, List.set_cons_succ])
      (refine wpAnyH_take (i := 7) (oi := _) (v := ?_) rfl (by kernel_rfl) (by kernel_rfl) (by kernel_rfl) (fun _ _ _ h => h) (Or.inl ⟨?_, ?_⟩) (by assumption) ?_; rotate_left; (focus (first | rfl | (simp [Region.wanted, yielded]; done))); (focus (intro w hSw; (try dsimp only at hSw); go_simp; all_goals (with_reducible rfl))); try simp only [Act.put, List.getElem_toArray, List.getElem_cons_zero, List.getElem_cons_succ, List.setIfInBounds_toArray, List.set_cons_zero, List.set_cons_succ])
      (refine wpAnyH_take (i := 8) (oi := _) (v := ?_) rfl (by kernel_rfl) (by kernel_rfl) (by kernel_rfl) (fun _ _ _ h => h) (Or.inl ⟨?_, ?_⟩) (by assumption) ?_; rotate_left; (focus (first | rfl | (simp [Region.wanted, yielded]; done))); (focus (intro w hSw; (try dsimp only at hSw); go_simp; all_goals (with_reducible rfl))); try simp only [Act.put, List.getElem_toArray, List.getElem_cons_zero, List.getElem_cons_succ, List.setIfInBounds_toArray, List.set_cons_zero, List.set_cons_succ])
      (refine wpAnyH_take (i := 9) (oi := _) (v := ?_) rfl (by kernel_rfl) (by kernel_rfl) (by kernel_rfl) (fun _ _ _ h => h) (Or.inl ⟨?_, ?_⟩) (by assumption) ?_; rotate_left; (focus (first | rfl | (simp [Region.wanted, yielded]; done))); (focus (intro w hSw; (try dsimp only at hSw); go_simp; all_goals (with_reducible rfl))); try simp only [Act.put, List.getElem_toArray, List.getElem_cons_zero, List.getElem_cons_succ, List.setIfInBounds_toArray, List.set_cons_zero, List.set_cons_succ])
      (refine wpAnyH_ready (rs := [10]) (by kernel_rfl) (by simp) ?_; refine AllReadyH.cons (o := _) rfl (fun K hK => ?_) AllReadyH.nil; go_simp)
      refine (RC.out _).mono ?_
      rintro e' w4 ⟨Al, cl, rfl, ol, hb4'⟩
      have hb4 := drew_below hb4'
      (refine hK.out _ _ hb4 (fun hHeld2 => ?_); clear hK K hHeld; have hHeld := hHeld2; clear hHeld2; try simp only [Act.put, List.getElem_toArray, List.getElem_cons_zero, List.getElem_cons_succ, List.setIfInBounds_toArray, List.set_cons_zero, List.set_cons_succ])
      (refine wpAnyH_take (i := 11) (oi := _) (v := ?_) rfl (by kernel_rfl) (by kernel_rfl) (by kernel_rfl) (fun _ _ _ h => h) (Or.inl ⟨?_, ?_⟩) (by assumption) ?_; rotate_left; (focus (first | rfl | (simp [Region.wanted, yielded]; done))); (focus (intro w hSw; (try dsimp only at hSw); go_simp; all_goals (with_reducible rfl))); try simp only [Act.put, List.getElem_toArray, List.getElem_cons_zero, List.getElem_cons_succ, List.setIfInBounds_toArray, List.set_cons_zero, List.set_cons_succ])
      (refine wpAnyH_done (by kernel_rfl) ?_ _; refine NoPanic.normal ?_)
      clear hHeld C1 C2 C3 hb4' x1 hc
      rw [chained_len] at ol ⊢
      have R4 := Lib.hid (RR.out.below hb4)
      have B4 := Lib.hid (BL.out.trans (hb4.mono hsz))
      have hz4 : B1 ≤ w4.heap.size := Nat.le_trans hsz hb4.size
      have RL := Lib.hid (Rd.of_own ol)
      have SL : Hid (∀ p, Al = some p → some p.block ≠ (Value.slice Ao no co).ownBlock) := Lib.hid (fun p hp e => by
        have h1 := (RR.out.oa.lt e.symm).2
        have h2 := (ol.lt p.block (by rw [hp]; rfl)).1
        have h2 : wr.heap.size ≤ p.block := h2
        omega)
      clear ol hb4 RR BL
      have O4 := Lib.hid R4.out.oa.row
      go_wp2_with (at_builtin; refine wpList_appL rfl (.tmp 39) (.tmp 40) 22 rfl Tryd.underlying22 info_str rfl B1 (.slice Ao no co) no _ Al (e + 1) cl (sv (Sl.chained e y)) (sv_cells _) rfl rfl O4.out RL.out ?d1 ?d2 ?d3 ?d4 ?d5 ?_)
      case d1 => rw [sv_len, chained_len]
      case d2 => omega
      case d3 => exact hz4
      case d4 => omega
      case d5 => omega
      intro g5 c5 w5 hown5 hg5 hl5 hb5
      have R5 := Lib.hid (R3.grow R4.out (X' := (List.range k).flatMap (ckF m.data.toList S) ++ Sl.chained e y) ⟨no + (e + 1), by rw [List.length_append, chained_len, ← HNO.out], by rw [sv_app]; simpa only [List.append_assoc] using hown5⟩ hg5 (lies_slice hl5)).swap
      have RL5 := Lib.hid (rd_grown RL.out hg5 SL.out)
      have B5 := Lib.hid (B4.out.trans hb5)
      have hz5 : B1 ≤ w5.heap.size := by have := B5.out.size; rw [HB1.out] at this; exact this
      clear hown5 hg5 hl5 hb5 O4 R4 B4 RL SL
      obtain ⟨bl, fl, rfl, hbl, hcl⟩ := RL5.out (by rw [sv_len, chained_len]; omega)
      have h15 := hcl e _ (chained_at (Nat.le_refl _))
      have hd5 := D0 _ B5.out
      clear hcl RL5 D0
      generalize Sl.chainF e y = z at *
      have ie : (e : Int) < (e : Int) + 1 := by omega
      have O5 : Hid ((w5.alloc (.cells #[.string (mkB z)] 9)).ownsRow B1 9 1 (.slice Ae ne ce) ne _) := Lib.hid ((R5.out.alloc (.cells #[.string (mkB z)] 9)).oa.row)
      go_wp2_with (at_builtin; refine wpList_appL rfl (.tmp 42) (.tmp 51) 22 rfl Tryd.underlying22 info_str rfl B1 (.slice Ae ne ce) ne _ _ 1 1 [.string (mkB z)] ?f1 rfl rfl O5.out (Rd.of_row (heap_alloc_new w5 _) (List.prefix_refl _)) rfl (by decide) ?f2 ?f3 ?f4 ?_)
      case f1 => exact sv_cells [z]
      case f2 => simp; omega
      case f3 => omega
      case f4 => omega
      intro g6 c6 w6 hown6 hg6 hl6 hb6
      have R6 := Lib.hid (R3.grow (R5.out.alloc _) (X' := (Sl.vends m.data.toList S).take k ++ [z]) ⟨ne + 1, by (rw [List.length_append, ← HNE.out]) <;> rfl, by rw [sv_app, sv_one]; simpa only [List.append_assoc] using hown6⟩ hg6 (lies_slice1 hl6)).swap
      have B6 := Lib.hid (B5.out.trans (((Below.refl B1 w5).alloc hz5 (.cells #[.string (mkB z)] 9)).trans hb6))
      have NX : Hid (CkR W1 w6 B1 m.data.toList S (k + 1) (.slice (some ⟨g5, 0, none⟩) (no + (e + 1)) c5) (.slice (some ⟨g6, 0, none⟩) (ne + 1) c6)) := Lib.hid (by
        unfold CkR
        rw [LF.out, ES.out]
        exact ⟨R6.out, B6.out⟩)
      clear hown6 hg6 hl6 hb6 O5 R5 B5 R6 B6 h15 hd5 ie wv
      go_wp2_with fail
      exact ⟨⟨k + 1, _, _, by omega, by go_num, rfl, rfl, NX⟩, by simp [intOf]; omega⟩
    · have hk2 : k = 18 := by omega
      subst hk2
      have d1 : ¬ ((18 : Nat) : Int) < 18 := by decide
      have EE : (Sl.vends m.data.toList S).take 18 = Sl.vends m.data.toList S := List.take_of_length_le (by rw [Sl.vends_len]; exact Nat.le_refl _)
      have HE := HNE.out
      rw [EE, Sl.vends_len] at HE
      subst HE
      rw [EE] at RR
      have CE : Hid (((List.range 18).flatMap (ckF m.data.toList S) ++ [Dg.joined (Sl.vends m.data.toList S)]) ++ Sl.climbT (P.drop 0) idx (Dg.sumL (Dg.joined (Sl.vends m.data.toList S))) = Sl.Checked m.data.toList idx S P) := Lib.hid (by rw [checked_eq]; simp [Sl.vkT])
      have CL : Hid ((Sl.Checked m.data.toList idx S P).length ≤ 2000) := Lib.hid (by
        rw [checked_eq, List.length_append, List.length_cons, climbT_len, N2.out]
        have := ck_flat m.data.toList S 18
        omega)
      have vs := vends_300 (m := m.data.toList) S1.out
      have zk : (mkB (Dg.joined (Sl.vends m.data.toList S))).size ≤ 1000000 := by rw [mkB_size]; exact joinT_len (by rw [Sl.vends_len]; decide) vs
      have JA := Lib.hid (rjoinT_any Ae 18 ce (Sl.vends m.data.toList S) wr (Sl.vends_len _ _).symm (by rw [Sl.vends_len]; decide) vs RR.out.ob.rd)
      clear EE HNE vs
      generalize (List.range 18).flatMap (ckF m.data.toList S) = FL at *
      generalize Sl.vends m.data.toList S = EN at *
      generalize Dg.joined EN = x at *
      have RS := Lib.hid (fun u => rsumT_any (mkB x) u zk)
      rw [mkB_list] at RS
      have ld : (Dg.sumL x).length ≤ 300 := by rw [isD_len (Dg.sumL_isD _)]; decide
      clear zk
      generalize Dg.sumL x = d at *
      clear x0 x1 x2
      go_wp2_with fail
      refine JA.out.mono ?_
      rintro e w2 ⟨rfl, hb2⟩
      have R2 := Lib.hid (RR.out.below hb2); have B2 := Lib.hid (BL.out.trans (hb2.mono hsz))
      have hz2 : B1 ≤ w2.heap.size := Nat.le_trans hsz hb2.size
      clear hb2 RR BL JA
      have O2 : Hid ((w2.alloc (.cells #[.string (mkB x)] 9)).ownsRow B1 9 1 (.slice Ao no co) no _) := Lib.hid ((R2.out.alloc (.cells #[.string (mkB x)] 9)).oa.row)
      go_wp2_with (at_builtin; refine wpList_appL rfl (.tmp 55) (.tmp 57) 22 rfl Tryd.underlying22 info_str rfl B1 (.slice Ao no co) no _ _ 1 1 [.string (mkB x)] ?c1 rfl rfl O2.out (Rd.of_row (heap_alloc_new w2 _) (List.prefix_refl _)) rfl (by decide) ?c2 ?c3 ?c4 ?_)
      case c1 => exact sv_cells [x]
      case c2 => simp; omega
      case c3 => omega
      case c4 => omega
      intro g3 c3 w3 hown3 hg3 hl3 hb3
      have ST : Hid (Own w3 B1 (.slice (some ⟨g3, 0, none⟩) (no + 1) c3) (FL ++ [x])) := Lib.hid ⟨no + 1, by (rw [List.length_append, ← HNO.out]) <;> rfl, by rw [sv_app, sv_one]; simpa only [List.append_assoc] using hown3⟩
      have B3 := Lib.hid (B2.out.trans (((Below.refl B1 w2).alloc hz2 (.cells #[.string (mkB x)] 9)).trans hb3))
      clear hown3 hg3 hl3 hb3 O2 R2 B2 hz2 hsz
      obtain ⟨x0, x1, x2⟩ := cells3 (Q.out.blk _ (KQ.out _ B3.out))
      go_wp2_with fail
      refine (RS.out _).mono ?_
      rintro e w4 ⟨rfl, rfl⟩
      go_wp2_with fail
      clear x0 x1 x2 d1
      go_loopw [6, 11, 12, 13] (fun o a' i' k' wr => ∃ (k ii : Nat) (vo : Value) (a : List UInt8) (X : List (List UInt8)), k ≤ n2 ∧ k' = .int .i64 k ∧ i' = .int .i64 ii ∧ a' = .string (mkB a) ∧ vo = o ∧ ii ≤ 1000000 ∧ a.length ≤ 300 ∧ Hid (Own wr B1 vo X) ∧ Hid (X ++ Sl.climbT (P.drop k) ii a = Sl.Checked m.data.toList idx S P) ∧ Hid (Below B1 W1 wr)) (fun _ _ _ k' _ => n2 - (intOf k').toNat)
      case atStart => exact ⟨0, idx, _, d, _, by omega, rfl, rfl, rfl, rfl, hidx, ld, ST, CE, B3⟩
      case round =>
        clear ST CE B3
        obtain ⟨k, ii, vo, a, X, hk, rfl, rfl, rfl, rfl, hii, la, hX, hC, hbl⟩ := hrel
        obtain ⟨no, hno, oo⟩ := hX.out
        obtain ⟨Ao, co, rfl, -, -⟩ := own_form oo
        have lo : no ≤ 2000 := by have := CL.out; rw [← hC.out, List.length_append] at this; omega
        have HNO := Lib.hid hno
        clear oo hno
        have hsz : B1 ≤ wr.heap.size := by have := hbl.out.size; rw [HB1.out] at this; exact this
        obtain ⟨x0, x1, x2⟩ := cells3 (Q.out.blk _ (KQ.out _ hbl.out))
        by_cases hkl : k < n2
        · have d1 : (k : Int) < (n2 : Int) := by omega
          have hkP : k < P.length := by rw [N2.out]; exact hkl
          obtain ⟨b, off, rfl, hb, hcell⟩ := (Q.out.r2 _ (KQ.out _ hbl.out)) (by rw [sv_len]; omega)
          have hc := hcell k _ (getD_at hkP)
          have ly := getD_300 S2.out k
          have DP := Lib.hid (drop_cons' hkP)
          clear hcell hkP
          generalize P.getD k [] = y at *
          have NC := Lib.hid (fun u => rnode_any (mkB a) (mkB y) u (by rw [mkB_size]; exact la) (by rw [mkB_size]; exact ly))
          have ND := Lib.hid (fun u => rnode_any (mkB y) (mkB a) u (by rw [mkB_size]; exact ly) (by rw [mkB_size]; exact la))
          rw [mkB_list, mkB_list] at NC ND
          have JV : Hid (Value.int .i64 ((ii : Int) / 2) = .int .i64 ((ii / 2 : Nat) : Int)) := Lib.hid (by rw [show ((ii / 2 : Nat) : Int) = (ii : Int) / 2 by omega])
          by_cases h1 : ii % 2 = 1
          · have m0 : ((ii : Int) % 2 == 1) = true := by rw [show (ii : Int) % 2 = 1 by omega]; rfl
            have CN : Hid ((X ++ [Sl.nodeT y a]) ++ Sl.climbT (P.drop (k + 1)) (ii / 2) (Dg.sumL (Sl.nodeT y a)) = Sl.Checked m.data.toList idx S P) := Lib.hid (by
              rw [← hC.out, DP.out, Sl.climbT, show Sl.pairT ii a y = Sl.nodeT y a by unfold Sl.pairT; rw [if_pos h1]]; simp)
            have zx : (mkB (Sl.nodeT y a)).size ≤ 1000000 := by rw [mkB_size]; exact joinT_len (by show 3 ≤ 30; decide) (three_300 (by decide) ly la)
            go_wp2_with fail
            refine (NC.out _).mono ?_
            rintro e w2 ⟨rfl, hb2⟩
            have H2 := Lib.hid (hX.out.below hb2)
            have B2 := Lib.hid (hbl.out.trans (hb2.mono hsz))
            have hz2 : B1 ≤ w2.heap.size := Nat.le_trans hsz hb2.size
            have hc2 := (hb2.cell (p := ⟨b, off + k, none⟩) hb).trans hc
            clear x0 x1 x2 hc hb2 hX hbl h1
            obtain ⟨x0, x1, x2⟩ := cells3 (Q.out.blk _ (KQ.out _ B2.out))
            go_wp2_with fail
            refine (ND.out _).mono ?_
            rintro e w3 ⟨rfl, hb3⟩
            have H3 := Lib.hid (H2.out.below hb3)
            have B3 := Lib.hid (B2.out.trans (hb3.mono hz2))
            have hz3 : B1 ≤ w3.heap.size := Nat.le_trans hz2 hb3.size
            clear x0 x1 x2 hc2 hb3 H2 B2
            clear NC ND
            generalize Sl.nodeT y a = x at *
            have RS := Lib.hid (fun u => rsumT_any (mkB x) u zx)
            rw [mkB_list] at RS
            have ld : (Dg.sumL x).length ≤ 300 := by rw [isD_len (Dg.sumL_isD _)]; decide
            clear zx
            generalize Dg.sumL x = d at *
            have O3 : Hid ((w3.alloc (.cells #[.string (mkB x)] 9)).ownsRow B1 9 1 (.slice Ao no co) no _) := Lib.hid (H3.out.below ((Below.refl _ _).alloc (Nat.le_refl _) (.cells #[.string (mkB x)] 9))).row
            go_wp2_with (at_builtin; refine wpList_appL rfl (.tmp 87) (.tmp 89) 22 rfl Tryd.underlying22 info_str rfl B1 (.slice Ao no co) no _ _ 1 1 [.string (mkB x)] ?p1 rfl rfl O3.out (Rd.of_row (heap_alloc_new w3 _) (List.prefix_refl _)) rfl (by decide) ?p2 ?p3 ?p4 ?_)
            case p1 => exact sv_cells [x]
            case p2 => simp; omega
            case p3 => omega
            case p4 => omega
            intro g5 c5 w5 hown5 hg5 hl5 hb5
            have H5 : Hid (Own w5 B1 (.slice (some ⟨g5, 0, none⟩) (no + 1) c5) (X ++ [x])) := Lib.hid ⟨no + 1, by (rw [List.length_append, ← HNO.out]) <;> rfl, by rw [sv_app, sv_one]; simpa only [List.append_assoc] using hown5⟩
            have B5 := Lib.hid (B3.out.trans (((Below.refl B1 w3).alloc hz3 (.cells #[.string (mkB x)] 9)).trans hb5))
            clear hown5 hg5 hl5 hb5 O3 H3 B3 hz3
            go_wp2_with fail
            refine (RS.out _).mono ?_
            rintro e w6 ⟨rfl, rfl⟩
            go_wp2_with fail
            exact ⟨⟨k + 1, ii / 2, _, d, _, by omega, by go_num, JV.out, rfl, rfl, by omega, ld, H5, CN, B5⟩, by simp [intOf]; omega⟩
          · have m0 : ((ii : Int) % 2 == 1) = false := by rw [show (ii : Int) % 2 = 0 by omega]; rfl
            have CN : Hid ((X ++ [Sl.nodeT a y]) ++ Sl.climbT (P.drop (k + 1)) (ii / 2) (Dg.sumL (Sl.nodeT a y)) = Sl.Checked m.data.toList idx S P) := Lib.hid (by
              rw [← hC.out, DP.out, Sl.climbT, show Sl.pairT ii a y = Sl.nodeT a y by unfold Sl.pairT; rw [if_neg h1]]; simp)
            have zx : (mkB (Sl.nodeT a y)).size ≤ 1000000 := by rw [mkB_size]; exact joinT_len (by show 3 ≤ 30; decide) (three_300 (by decide) la ly)
            go_wp2_with fail
            refine (NC.out _).mono ?_
            rintro e w3 ⟨rfl, hb3⟩
            have H3 := Lib.hid (hX.out.below hb3)
            have B3 := Lib.hid (hbl.out.trans (hb3.mono hsz))
            have hz3 : B1 ≤ w3.heap.size := Nat.le_trans hsz hb3.size
            clear x0 x1 x2 hc hb3 hX hbl h1
            clear NC ND
            generalize Sl.nodeT a y = x at *
            have RS := Lib.hid (fun u => rsumT_any (mkB x) u zx)
            rw [mkB_list] at RS
            have ld : (Dg.sumL x).length ≤ 300 := by rw [isD_len (Dg.sumL_isD _)]; decide
            clear zx
            generalize Dg.sumL x = d at *
            have O3 : Hid ((w3.alloc (.cells #[.string (mkB x)] 9)).ownsRow B1 9 1 (.slice Ao no co) no _) := Lib.hid (H3.out.below ((Below.refl _ _).alloc (Nat.le_refl _) (.cells #[.string (mkB x)] 9))).row
            go_wp2_with (at_builtin; refine wpList_appL rfl (.tmp 87) (.tmp 89) 22 rfl Tryd.underlying22 info_str rfl B1 (.slice Ao no co) no _ _ 1 1 [.string (mkB x)] ?q1 rfl rfl O3.out (Rd.of_row (heap_alloc_new w3 _) (List.prefix_refl _)) rfl (by decide) ?q2 ?q3 ?q4 ?_)
            case q1 => exact sv_cells [x]
            case q2 => simp; omega
            case q3 => omega
            case q4 => omega
            intro g5 c5 w5 hown5 hg5 hl5 hb5
            have H5 : Hid (Own w5 B1 (.slice (some ⟨g5, 0, none⟩) (no + 1) c5) (X ++ [x])) := Lib.hid ⟨no + 1, by (rw [List.length_append, ← HNO.out]) <;> rfl, by rw [sv_app, sv_one]; simpa only [List.append_assoc] using hown5⟩
            have B5 := Lib.hid (B3.out.trans (((Below.refl B1 w3).alloc hz3 (.cells #[.string (mkB x)] 9)).trans hb5))
            clear hown5 hg5 hl5 hb5 O3 H3 B3 hz3
            go_wp2_with fail
            refine (RS.out _).mono ?_
            rintro e w6 ⟨rfl, rfl⟩
            go_wp2_with fail
            exact ⟨⟨k + 1, ii / 2, _, d, _, by omega, by go_num, JV.out, rfl, rfl, by omega, ld, H5, CN, B5⟩, by simp [intOf]; omega⟩
        · have hkn : k = n2 := by omega
          subst hkn
          have d1 : ¬ (k : Int) < (k : Int) := by omega
          have XE : X = Sl.Checked m.data.toList idx S P := by
            rw [← hC.out, List.drop_of_length_le (by rw [N2.out]; exact Nat.le_refl _)]; simp [Sl.climbT]
          have FIN : Hid (OwnP w (Sl.Checked m.data.toList idx S P) (.returned (.slice Ao no co)) wr) := Lib.hid (by
            obtain ⟨n', hn', oo⟩ := hX.out
            have e1 : n' = no := by rw [hn', HNO.out]
            rw [e1] at oo
            exact ⟨Ao, co, by rw [← XE, HNO.out], by rw [← XE, ← HNO.out, HW.out]; exact own_base oo (by omega), Q.out.bel _ (KQ.out _ hbl.out)⟩)
          clear XE hX hC
          go_wp2_with fail
          go_ret
          exact FIN.out
end Go.Proofs.YthceonkdmcidcaaDoor
