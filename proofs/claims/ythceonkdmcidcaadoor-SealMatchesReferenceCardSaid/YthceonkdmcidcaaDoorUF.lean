/- WALK: the reference's Made. -/
import Derived.Test.YthceonkdmcidcaaDoorUE
import Derived.Deep.DeepCutAuto
set_option linter.unusedSimpArgs false
set_option linter.unusedVariables false
namespace Go.Proofs.YthceonkdmcidcaaDoor
open Go.RowKit

/-- what stands made behind i keys -/
def MdR (w wr : World) (B : Nat) (s : List UInt8) (h n i : Nat) (o l : Value) : Prop :=
  R3 wr B o l (.slice none 0 0) ((List.range i).flatMap (Sl.madeLeaf s n)) ((Sl.keysF s h).take i) [] ∧ Below B w wr
/-- within a key, behind k chains -/
def MkR (w wr : World) (B : Nat) (s : List UInt8) (h n i k : Nat) (o l e : Value) : Prop :=
  R3 wr B o l e ((List.range i).flatMap (Sl.madeLeaf s n) ++ (List.range k).flatMap (leafF s n i)) ((Sl.keysF s h).take i) ((Sl.endsF s i).take k) ∧ Below B w wr
theorem mdR_len {s : List UInt8} {n i : Nat} (hn : n ≤ 30) (hi : i ≤ 256) : ((List.range i).flatMap (Sl.madeLeaf s n)).length ≤ 150000 := by
  rw [flat_len _ _ (madeLeaf_len s n)]
  have : i * (18 * (n + 2) + 1) ≤ 256 * 577 := Nat.mul_le_mul hi (by omega)
  omega
theorem leafs_len {s : List UInt8} {n i k : Nat} (hn : n ≤ 30) (hk : k ≤ 18) : ((List.range k).flatMap (leafF s n i)).length ≤ 600 := by
  rw [flat_len _ _ (leafF_len s n i)]
  have : k * (n + 2) ≤ 18 * 32 := Nat.mul_le_mul hk (by omega)
  omega
/-- the levels of the tree: what is left to be made -/
def MtR (w : World) (B : Nat) (s : List UInt8) (h n : Nat) (o l : Value) (wr : World) : Prop :=
  ∃ (k : Nat) (L X : List (List UInt8)) (A : Option Addr) (c : Nat), l = .slice A L.length c ∧ k ≤ h ∧ L.length = 2 ^ k ∧ (∀ t ∈ L, t.length ≤ 300) ∧ X ++ Sl.madeTree k L = Sl.Made s h n ∧ R3 wr B o l (.slice none 0 0) X L [] ∧ Below B w wr
set_option maxRecDepth 100000 in
set_option maxHeartbeats 8000000 in
theorem made_any (s : ByteArray) (h n : Nat) (x y : Int) (w : World) (hx : x = (h : Int)) (hy : y = (n : Int)) (hs : s.size ≤ 300) (hh : h ≤ 8) (hn : 15 ≤ n) (hn2 : n ≤ 30) :
    Calls Tryd.prog 23 #[.string s, .int .i64 x, .int .i64 y] w (OwnP w (Sl.Made s.data.toList h n)) := by
  subst hx hy
  have PA := Lib.hid (fun u => rpower_any (h : Int) h u rfl (by omega))
  have P8 := pow_le8 hh
  have KL := Lib.hid (Sl.keysF_len s.data.toList h)
  have hs' : s.data.toList.length ≤ 300 := by rw [← Lib.size_eq]; exact hs
  have KS : Hid (∀ k, k < 2 ^ h → (Sl.keysF s.data.toList h).take (k + 1) = (Sl.keysF s.data.toList h).take k ++ [Sl.key s.data.toList k]) := Lib.hid (fun k hk => keys_step' hk)
  have MT : Hid ((List.range (2 ^ h)).flatMap (Sl.madeLeaf s.data.toList n) ++ Sl.madeTree h (Sl.keysF s.data.toList h) = Sl.Made s.data.toList h n) := Lib.hid rfl
  have ML := Lib.hid (made_len (s := s.data.toList) hh hn2)
  have HH := Lib.hid hh
  obtain ⟨N, hN⟩ : ∃ N, 2 ^ h = N := ⟨_, rfl⟩
  have HN := Lib.hid hN
  rw [hN] at PA P8 KL KS MT
  obtain ⟨B, hB⟩ : ∃ B, w.heap.size = B := ⟨_, rfl⟩
  have HW : Hid (B = w.heap.size) := Lib.hid hB.symm
  have ST : Hid (MdR w w B s.data.toList h n 0 (.slice none 0 0) (.slice none 0 0)) := Lib.hid ⟨R3.start _ _, Below.refl _ _⟩
  clear hB hh hN
  go_enter Tryd.func23, Tryd.ntmps23
  go_wp2_with fail
  go_loopw [7, 8, 9] (fun o l i' wr => ∃ (i : Nat) (vo vl : Value), i ≤ N ∧ i' = .int .i64 i ∧ vo = o ∧ vl = l ∧ Hid (MdR w wr B s.data.toList h n i vo vl)) (fun _ _ i' _ => N - (intOf i').toNat)
  case atStart => exact ⟨0, _, _, by omega, rfl, rfl, rfl, ST⟩
  case round =>
    clear ST
    obtain ⟨i, vo, vl, hi, rfl, rfl, rfl, hm⟩ := hrel
    obtain ⟨wo, hwo⟩ : ∃ wo, wo = wr := ⟨_, rfl⟩
    rw [← hwo] at hm ⊢
    clear hwo
    by_cases hlt : i < N
    · have d1 : (i : Int) < (N : Int) := by omega
      have hi256 : i < 256 := by omega
      have ST2 : Hid (MkR w wo B s.data.toList h n i 0 vo vl (.slice none 0 0)) := Lib.hid (by
        have := hm.out
        unfold MdR at this; unfold MkR
        simpa using this)
      have LO := mdR_len (s := s.data.toList) (n := n) (i := i) hn2 (by omega)
      clear hm
      go_wp2_with fail
      refine (PA.out _).mono ?_
      rintro e w1 ⟨rfl, rfl⟩
      go_wp2_with fail
      clear d1
      go_loopw [7, 10, 11] (fun o e k' wr => ∃ (k : Nat) (vo ve : Value), k ≤ 18 ∧ k' = .int .i64 k ∧ vo = o ∧ ve = e ∧ Hid (MkR w wr B s.data.toList h n i k vo vl ve)) (fun _ _ k' _ => 18 - (intOf k').toNat)
      case atStart => exact ⟨0, _, _, by omega, rfl, rfl, rfl, ST2⟩
      case round =>
        clear ST2
        obtain ⟨k, vo, ve, hk, rfl, rfl, rfl, hmk⟩ := hrel
        have LK := leafs_len (s := s.data.toList) (n := n) (i := i) (k := k) hn2 hk
        have RR := Lib.hid hmk.out.1; have BL := Lib.hid hmk.out.2
        clear hmk
        have hsz : B ≤ wr.heap.size := by have := BL.out.size; rw [HW.out]; exact this
        obtain ⟨no, hno, oo⟩ := RR.out.oa
        obtain ⟨Ao, co, rfl, -, -⟩ := own_form oo
        obtain ⟨ne, hne, oe⟩ := RR.out.oc
        obtain ⟨Ae, ce, rfl, -, -⟩ := own_form oe
        have lo : no ≤ 160000 := by rw [hno, List.length_append]; omega
        have HNO := Lib.hid hno; have HNE := Lib.hid hne
        clear oo oe hno hne LK
        by_cases hk18 : k < 18
        · have d1 : (k : Int) < 18 := by omega
          have le : ne ≤ 18 := by rw [HNE.out, List.length_take]; omega
          have LF : Hid ((List.range i).flatMap (Sl.madeLeaf s.data.toList n) ++ (List.range (k + 1)).flatMap (leafF s.data.toList n i) = ((List.range i).flatMap (Sl.madeLeaf s.data.toList n) ++ (List.range k).flatMap (leafF s.data.toList n i)) ++ [Sl.startT s.data.toList i k] ++ Sl.chained n (Dg.sumL (Sl.startT s.data.toList i k))) := Lib.hid (by
            rw [flat_succ]; simp [leafF, Sl.start])
          have ES : Hid ((Sl.endsF s.data.toList i).take (k + 1) = (Sl.endsF s.data.toList i).take k ++ [Sl.chainF 15 (Dg.sumL (Sl.startT s.data.toList i k))]) := Lib.hid (ends_step' hk18)
          have zx : (mkB (Sl.startT s.data.toList i k)).size ≤ 1000000 := by rw [mkB_size]; exact startT_len hs' (by omega) (by omega)
          go_wp2_with fail
          refine (rdecimal_any i wr (by omega)).mono ?_
          rintro e w1 ⟨rfl, rfl⟩
          go_wp2_with fail
          refine (rdecimal_any k wr (by omega)).mono ?_
          rintro e w1 ⟨rfl, rfl⟩
          go_wp2_with fail
          refine (rstartJ_core s i k wr hs (by omega) (by omega)).mono ?_
          rintro e w2 ⟨rfl, hb2⟩
          have R2 := Lib.hid (RR.out.below hb2); have B2 := Lib.hid (BL.out.trans (hb2.mono hsz))
          have hz2 : B ≤ w2.heap.size := Nat.le_trans hsz hb2.size
          clear hb2 RR BL
          generalize Sl.startT s.data.toList i k = x at *
          have RS := Lib.hid (fun u => rsumT_any (mkB x) u zx)
          rw [mkB_list] at RS
          have zd : (mkB (Dg.sumL x)).size ≤ 1000000 := by rw [mkB_size, isD_len (Dg.sumL_isD _)]; decide
          have RC := Lib.hid (fun u => rchained_any (mkB (Dg.sumL x)) n (n : Int) u rfl (by omega) zd)
          rw [mkB_list] at RC
          clear zx zd
          generalize Dg.sumL x = d at *
          have O2 : Hid ((w2.alloc (.cells #[.string (mkB x)] 9)).ownsRow B 9 1 (.slice Ao no co) no _) := Lib.hid ((R2.out.alloc (.cells #[.string (mkB x)] 9)).oa.row)
          go_wp2_with (at_builtin; refine wpList_appL rfl (.tmp 34) (.tmp 36) 22 rfl Tryd.underlying22 info_str rfl B (.slice Ao no co) no _ _ 1 1 [.string (mkB x)] ?c1 rfl rfl O2.out (Rd.of_row (heap_alloc_new w2 _) (List.prefix_refl _)) rfl (by decide) ?c2 ?c3 ?c4 ?_)
          case c1 => exact sv_cells [x]
          case c2 => simp; omega
          case c3 => omega
          case c4 => omega
          intro g3 c3 w3 hown3 hg3 hl3 hb3
          have R3a := Lib.hid (R3.grow (R2.out.alloc _) (X' := ((List.range i).flatMap (Sl.madeLeaf s.data.toList n) ++ (List.range k).flatMap (leafF s.data.toList n i)) ++ [x]) ⟨no + 1, by (rw [List.length_append, ← HNO.out]) <;> rfl, by rw [sv_app, sv_one]; simpa only [List.append_assoc] using hown3⟩ hg3 (lies_slice1 hl3))
          have B3 := Lib.hid (B2.out.trans (((Below.refl B w2).alloc hz2 (.cells #[.string (mkB x)] 9)).trans hb3))
          have hz3 : B ≤ w3.heap.size := by have := B3.out.size; rw [HW.out]; exact this
          clear hown3 hg3 hl3 hb3 O2 R2 B2
          go_wp2_with fail
          refine (RS.out _).mono ?_
          rintro e w4 ⟨rfl, rfl⟩
          go_wp2_with fail
          refine (RC.out _).mono ?_
          rintro e w4 ⟨Al, cl, rfl, ol, hb4⟩
          rw [chained_len] at ol ⊢
          have R4 := Lib.hid (R3a.out.below hb4)
          have B4 := Lib.hid (B3.out.trans (hb4.mono hz3))
          have hz4 : B ≤ w4.heap.size := Nat.le_trans hz3 hb4.size
          have RL := Lib.hid (Rd.of_own ol)
          have SL : Hid (∀ p, Al = some p → p.block ≠ g3) := Lib.hid (fun p hp e => by
            have h1 := (R3a.out.oa.lt (g := g3) rfl).2
            have h2 := (ol.lt p.block (by rw [hp]; rfl)).1
            omega)
          clear ol hb4 R3a B3
          have O4 := Lib.hid R4.out.oa.row
          go_wp2_with (at_builtin; refine wpList_appL rfl (.tmp 42) (.tmp 43) 22 rfl Tryd.underlying22 info_str rfl B (.slice (some ⟨g3, 0, none⟩) (no + 1) c3) (no + 1) _ Al (n + 1) cl (sv (Sl.chained n d)) (sv_cells _) rfl rfl O4.out RL.out ?d1 ?d2 ?d3 ?d4 ?d5 ?_)
          case d1 => rw [sv_len, chained_len]
          case d2 => omega
          case d3 => exact hz4
          case d4 => omega
          case d5 => omega
          intro g5 c5 w5 hown5 hg5 hl5 hb5
          have R5 := Lib.hid (R3.grow R4.out (X' := ((List.range i).flatMap (Sl.madeLeaf s.data.toList n) ++ (List.range k).flatMap (leafF s.data.toList n i)) ++ [x] ++ Sl.chained n d) ⟨no + 1 + (n + 1), by (rw [List.length_append, List.length_append, chained_len, ← HNO.out]) <;> rfl, by rw [sv_app]; simpa only [List.append_assoc] using hown5⟩ hg5 (lies_slice hl5))
          have RL5 := Lib.hid (rd_grown RL.out hg5 (fun p hp e => SL.out p hp (by simpa [Value.ownBlock] using e)))
          have B5 := Lib.hid (B4.out.trans hb5)
          have hz5 : B ≤ w5.heap.size := by have := B5.out.size; rw [HW.out]; exact this
          clear hown5 hg5 hl5 hb5 O4 R4 B4 RL SL
          obtain ⟨bl, fl, rfl, hbl, hcl⟩ := RL5.out (by rw [sv_len, chained_len]; omega)
          have h15 := hcl 15 _ (chained_at (by omega))
          clear hcl RL5
          generalize Sl.chainF 15 d = y at *
          have i15 : (15 : Int) < (n : Int) + 1 := by omega
          have O5 : Hid ((w5.alloc (.cells #[.string (mkB y)] 9)).ownsRow B 9 1 (.slice Ae ne ce) ne _) := Lib.hid ((R5.out.alloc (.cells #[.string (mkB y)] 9)).oc.row)
          go_wp2_with (at_builtin; refine wpList_appL rfl (.tmp 45) (.tmp 49) 22 rfl Tryd.underlying22 info_str rfl B (.slice Ae ne ce) ne _ _ 1 1 [.string (mkB y)] ?f1 rfl rfl O5.out (Rd.of_row (heap_alloc_new w5 _) (List.prefix_refl _)) rfl (by decide) ?f2 ?f3 ?f4 ?_)
          case f1 => exact sv_cells [y]
          case f2 => simp; omega
          case f3 => omega
          case f4 => omega
          intro g6 c6 w6 hown6 hg6 hl6 hb6
          have R6 := Lib.hid (R3.grow (R5.out.alloc _).turn (X' := (Sl.endsF s.data.toList i).take k ++ [y]) ⟨ne + 1, by (rw [List.length_append, ← HNE.out]) <;> rfl, by rw [sv_app, sv_one]; simpa only [List.append_assoc] using hown6⟩ hg6 (lies_slice1 hl6)).turn
          have B6 := Lib.hid (B5.out.trans (((Below.refl B w5).alloc hz5 (.cells #[.string (mkB y)] 9)).trans hb6))
          have NX : Hid (MkR w w6 B s.data.toList h n i (k + 1) (.slice (some ⟨g5, 0, none⟩) (no + 1 + (n + 1)) c5) vl (.slice (some ⟨g6, 0, none⟩) (ne + 1) c6)) := Lib.hid (by
            unfold MkR
            rw [LF.out, ES.out]
            exact ⟨R6.out, B6.out⟩)
          clear hown6 hg6 hl6 hb6 O5 R5 B5 R6 B6 h15
          go_wp2_with fail
          exact ⟨⟨k + 1, _, _, by omega, by go_num, rfl, rfl, NX⟩, by simp [intOf]; omega⟩
        · have hk2 : k = 18 := by omega
          subst hk2
          have d1 : ¬ ((18 : Nat) : Int) < 18 := by decide
          have EE : (Sl.endsF s.data.toList i).take 18 = Sl.endsF s.data.toList i := List.take_of_length_le (by rw [Sl.endsF_len]; exact Nat.le_refl _)
          have HE := HNE.out
          rw [EE, Sl.endsF_len] at HE
          subst HE
          rw [EE] at RR
          have LF : Hid ((List.range (i + 1)).flatMap (Sl.madeLeaf s.data.toList n) = ((List.range i).flatMap (Sl.madeLeaf s.data.toList n) ++ (List.range 18).flatMap (leafF s.data.toList n i)) ++ [Dg.joined (Sl.endsF s.data.toList i)]) := Lib.hid (by
            rw [flat_succ, madeLeaf_eq]; simp [Sl.keyT])
          have KE : Hid ((Sl.keysF s.data.toList h).take (i + 1) = (Sl.keysF s.data.toList h).take i ++ [Dg.sumL (Dg.joined (Sl.endsF s.data.toList i))]) := Lib.hid (by rw [KS.out i hlt]; rfl)
          have zk : (mkB (Dg.joined (Sl.endsF s.data.toList i))).size ≤ 1000000 := by rw [mkB_size]; exact joinT_len (by rw [Sl.endsF_len]; decide) ends_size
          have JA := Lib.hid (rjoinT_any Ae 18 ce (Sl.endsF s.data.toList i) wr (Sl.endsF_len _ _).symm (by rw [Sl.endsF_len]; decide) ends_size RR.out.oc.rd)
          clear EE HNE
          generalize (List.range 18).flatMap (leafF s.data.toList n i) = FL at *
          generalize Sl.endsF s.data.toList i = EN at *
          generalize Dg.joined EN = x at *
          have RS := Lib.hid (fun u => rsumT_any (mkB x) u zk)
          rw [mkB_list] at RS
          clear zk
          generalize Dg.sumL x = d at *
          go_wp2_with fail
          refine JA.out.mono ?_
          rintro e w2 ⟨rfl, hb2⟩
          have R2 := Lib.hid (RR.out.below hb2).third; have B2 := Lib.hid (BL.out.trans (hb2.mono hsz))
          have hz2 : B ≤ w2.heap.size := Nat.le_trans hsz hb2.size
          clear hb2 RR BL JA
          have O2 : Hid ((w2.alloc (.cells #[.string (mkB x)] 9)).ownsRow B 9 1 (.slice Ao no co) no _) := Lib.hid ((R2.out.alloc (.cells #[.string (mkB x)] 9)).oa.row)
          go_wp2_with (at_builtin; refine wpList_appL rfl (.tmp 53) (.tmp 55) 22 rfl Tryd.underlying22 info_str rfl B (.slice Ao no co) no _ _ 1 1 [.string (mkB x)] ?c1 rfl rfl O2.out (Rd.of_row (heap_alloc_new w2 _) (List.prefix_refl _)) rfl (by decide) ?c2 ?c3 ?c4 ?_)
          case c1 => exact sv_cells [x]
          case c2 => simp; omega
          case c3 => omega
          case c4 => omega
          intro g3 c3 w3 hown3 hg3 hl3 hb3
          have R3a := Lib.hid (R3.grow (R2.out.alloc _) (X' := ((List.range i).flatMap (Sl.madeLeaf s.data.toList n) ++ FL) ++ [x]) ⟨no + 1, by (rw [List.length_append, ← HNO.out]) <;> rfl, by rw [sv_app, sv_one]; simpa only [List.append_assoc] using hown3⟩ hg3 (lies_slice1 hl3)).swap
          have B3 := Lib.hid (B2.out.trans (((Below.refl B w2).alloc hz2 (.cells #[.string (mkB x)] 9)).trans hb3))
          have hz3 : B ≤ w3.heap.size := by have := B3.out.size; rw [HW.out]; exact this
          clear hown3 hg3 hl3 hb3 O2 R2 B2
          obtain ⟨nl, hnl, o3⟩ := R3a.out.oa
          obtain ⟨All, cll, rfl, -, -⟩ := own_form o3
          have ll : nl ≤ 256 := by rw [hnl, List.length_take]; omega
          have HNL := Lib.hid hnl
          clear o3 hnl
          have O3 : Hid ((w3.alloc (.cells #[.string (mkB d)] 9)).ownsRow B 9 1 (.slice All nl cll) nl _) := Lib.hid ((R3a.out.alloc (.cells #[.string (mkB d)] 9)).oa.row)
          go_wp2_with fail
          refine (RS.out _).mono ?_
          rintro e w4 ⟨rfl, rfl⟩
          go_wp2_with (at_builtin; refine wpList_appL rfl (.tmp 57) (.tmp 60) 22 rfl Tryd.underlying22 info_str rfl B (.slice All nl cll) nl _ _ 1 1 [.string (mkB d)] ?d1 rfl rfl O3.out (Rd.of_row (heap_alloc_new w3 _) (List.prefix_refl _)) rfl (by decide) ?d2 ?d3 ?d4 ?_)
          case d1 => exact sv_cells [d]
          case d2 => simp; omega
          case d3 => omega
          case d4 => omega
          intro g5 c5 w5 hown5 hg5 hl5 hb5
          have R5 := Lib.hid (R3.grow (R3a.out.alloc _) (X' := (Sl.keysF s.data.toList h).take i ++ [d]) ⟨nl + 1, by (rw [List.length_append, ← HNL.out]) <;> rfl, by rw [sv_app, sv_one]; simpa only [List.append_assoc] using hown5⟩ hg5 (lies_slice1 hl5)).swap
          have B5 := Lib.hid (B3.out.trans (((Below.refl B w3).alloc hz3 (.cells #[.string (mkB d)] 9)).trans hb5))
          have NX : Hid (MdR w w5 B s.data.toList h n (i + 1) (.slice (some ⟨g3, 0, none⟩) (no + 1) c3) (.slice (some ⟨g5, 0, none⟩) (nl + 1) c5)) := Lib.hid (by
            unfold MdR
            rw [LF.out, KE.out]
            exact ⟨R5.out, B5.out⟩)
          clear hown5 hg5 hl5 hb5 O3 R3a B3 R5 B5
          go_wp2_with fail
          exact ⟨⟨i + 1, _, _, by omega, by go_num, rfl, rfl, NX⟩, by simp [intOf]; omega⟩
    · have hiN : i = N := by omega
      subst hiN
      have d1 : ¬ (i : Int) < (i : Int) := by omega
      have RR := hm.out.1
      rw [List.take_of_length_le (by rw [KL.out]; exact Nat.le_refl _)] at RR
      obtain ⟨nl, hnl, ol⟩ := RR.ob
      obtain ⟨Al, cl, rfl, -, -⟩ := own_form ol
      rw [hnl] at RR ⊢
      have S2 : Hid (MtR w B s.data.toList h n vo (.slice Al (Sl.keysF s.data.toList h).length cl) wo) := Lib.hid ⟨h, _, _, Al, cl, rfl, Nat.le_refl _, Sl.keysF_len _ _, keys_size, MT.out, RR, hm.out.2⟩
      clear RR ol hnl hm MT KL KS
      generalize (Sl.keysF s.data.toList h).length = nk at *
      go_wp2_with fail
      refine (PA.out _).mono ?_
      rintro e w1 ⟨rfl, rfl⟩
      go_wp2_with fail
      clear d1
      go_loopw [7, 8] (fun o l wr => ∃ vo vl : Value, vo = o ∧ vl = l ∧ Hid (MtR w B s.data.toList h n vo vl wr)) (fun _ l _ => slLen l)
      case atStart => exact ⟨_, _, rfl, rfl, S2⟩
      case round =>
        clear S2
        obtain ⟨vo, vl, rfl, rfl, hm⟩ := hrel
        obtain ⟨k, L, X, A, c, rfl, hk, hL, hsz, hX, hR, hbl⟩ := hm.out
        have RR := Lib.hid hR; have BL := Lib.hid hbl; have SZ := Lib.hid hsz; have HX := Lib.hid hX; have HL := Lib.hid hL; have HK := Lib.hid hk
        have lX : X.length ≤ 150000 := by have := ML.out; rw [← hX, List.length_append] at this; omega
        have hzr : B ≤ wr.heap.size := by have := hbl.size; rw [HW.out]; exact this
        clear hR hbl hsz hX hL hm hk
        obtain ⟨wo, hwo⟩ : ∃ wo, wo = wr := ⟨_, rfl⟩
        rw [← hwo] at RR BL hzr ⊢
        clear hwo
        cases k with
        | zero =>
          have l1 : L.length = 1 := HL.out
          have XE : Hid (X = Sl.Made s.data.toList h n) := Lib.hid (by rw [← HX.out]; simp [Sl.madeTree])
          obtain ⟨no, hno, oo⟩ := RR.out.oa
          obtain ⟨Ao, co, rfl, -, -⟩ := own_form oo
          have FIN : Hid (OwnP w (Sl.Made s.data.toList h n) (.returned (.slice Ao no co)) wo) := Lib.hid ⟨Ao, co, by rw [← XE.out, hno], by rw [← XE.out, ← HW.out, ← hno]; exact oo, by rw [← HW.out]; exact BL.out⟩
          obtain ⟨nn, hn⟩ : ∃ n, L.length = n := ⟨_, rfl⟩
          rw [hn] at l1 ⊢
          subst l1
          clear hn HL oo hno
          go_wp2_with fail
          go_ret
          exact FIN.out
        | succ k =>
          have P8 := pow_le256 (k := k) (h := h) (by have := HK.out; omega) HH.out
          have hp2 := pow_two k
          have P0 := pow_pos2 k
          have hl2 : L.length = 2 * 2 ^ k := by rw [← hp2]; exact HL.out
          have lL : L.length ≤ 512 := by omega
          have d1 : (1 : Int) < (L.length : Int) := by omega
          have TL := Lib.hid (texts_len L); have UL := Lib.hid (Sl.up_len L)
          have hev : L.length % 2 = 0 := by omega
          obtain ⟨bl, fl, rfl, -, -⟩ := RR.out.ob.rd (by rw [sv_len]; omega)
          have S4 : Hid (R3 wo B vo (.slice (some ⟨bl, fl, none⟩) L.length c) (.slice none 0 0) (X ++ (Sl.texts L).take 0) L ((Sl.up L).take 0)) := Lib.hid (by simpa using RR.out)
          have NXT : Hid (∀ (vo' : Value) (An : Option Addr) (cn : Nat) (w' : World), R3 w' B vo' (.slice An (Sl.up L).length cn) (.slice none 0 0) (X ++ Sl.texts L) (Sl.up L) [] → Below B w w' → MtR w B s.data.toList h n vo' (.slice An (Sl.up L).length cn) w') := Lib.hid (fun vo' An cn w' h1 h2 => ⟨k, Sl.up L, X ++ Sl.texts L, An, cn, rfl, by have := HK.out; omega, up_half HL.out, up_size, by rw [List.append_assoc, ← HX.out]; rfl, h1, h2⟩)
          clear hp2 hl2 P8 RR P0
          obtain ⟨m, hm⟩ : ∃ m, L.length = m := ⟨_, rfl⟩
          have HM := Lib.hid hm
          have d2 : 1 < m := by omega
          rw [hm] at S4 d1 lL hev ⊢
          clear hm
          go_wp2_with fail
          clear d1
          go_loopw [7, 15, 16] (fun o nx j' wr => ∃ (j : Nat) (vo vn : Value), 2 * j ≤ m ∧ j' = .int .i64 (2 * j : Nat) ∧ vo = o ∧ vn = nx ∧ Hid (R3 wr B vo (.slice (some ⟨bl, fl, none⟩) m c) vn (X ++ (Sl.texts L).take j) L ((Sl.up L).take j)) ∧ Hid (Below B w wr)) (fun _ _ j' _ => m - (intOf j').toNat)
          case atStart => exact ⟨0, _, _, by omega, rfl, rfl, rfl, S4, BL⟩
          case round =>
            clear S4 BL hzr
            obtain ⟨j, vo, vn, hj, rfl, rfl, rfl, hR, hbl⟩ := hrel
            have hz : B ≤ wr.heap.size := by have := hbl.out.size; rw [HW.out]; exact this
            obtain ⟨no, hno, oo⟩ := hR.out.oa
            obtain ⟨Ao, co, rfl, -, -⟩ := own_form oo
            obtain ⟨nn, hnn, on⟩ := hR.out.oc
            obtain ⟨An, cn, rfl, -, -⟩ := own_form on
            have lo : no ≤ 160000 := by rw [hno, List.length_append, List.length_take, TL.out, HM.out]; omega
            have ln : nn ≤ 512 := by rw [hnn, List.length_take, UL.out, HM.out]; omega
            have HNO := Lib.hid hno; have HNN := Lib.hid hnn
            clear oo on hno hnn
            by_cases hlt : 2 * j + 1 < m
            · have hltL : 2 * j + 1 < L.length := by rw [HM.out]; exact hlt
              have TS := Lib.hid (texts_step hltL); have US := Lib.hid (up_step' hltL)
              have HC : Hid (∀ (u : World) (a : Value) (Y Z : List (List UInt8)) (b : Value), R3 u B a (.slice (some ⟨bl, fl, none⟩) m c) b Y L Z → u.cell? ⟨bl, fl + 2 * j, none⟩ = some (.string (mkB (L.getD (2 * j) []))) ∧ u.cell? ⟨bl, fl + (2 * j + 1), none⟩ = some (.string (mkB (L.getD (2 * j + 1) [])))) := Lib.hid (fun u a Y Z b hh => by
                obtain ⟨b', f', e', hb', hcell⟩ := hh.ob.rd (by rw [sv_len]; omega)
                cases e'
                exact ⟨hcell (2 * j) _ (getD_at (by omega)), hcell (2 * j + 1) _ (getD_at hltL)⟩)
              have la := getD_300 SZ.out (2 * j); have lb := getD_300 SZ.out (2 * j + 1)
              generalize L.getD (2 * j) [] = ta at *
              generalize L.getD (2 * j + 1) [] = tb at *
              have zx : (mkB (Sl.nodeT ta tb)).size ≤ 1000000 := by rw [mkB_size]; exact joinT_len (by show 3 ≤ 30; decide) (three_300 (by decide) la lb)
              have NC := Lib.hid (fun u => rnode_any (mkB ta) (mkB tb) u (by rw [mkB_size]; exact la) (by rw [mkB_size]; exact lb))
              rw [mkB_list, mkB_list] at NC
              have RS := Lib.hid (fun u => rsumT_any (mkB (Sl.nodeT ta tb)) u zx)
              rw [mkB_list] at RS
              generalize Sl.nodeT ta tb = x at *
              generalize Dg.sumL x = d at *
              obtain ⟨q, hq⟩ : ∃ q, 2 * j = q := ⟨_, rfl⟩
              have HQ := Lib.hid hq
              have jm : j ≤ m := by omega
              rw [hq] at HC hlt hj ⊢
              have w1' : IntKind.i64.wrap ((q : Int) + 1) = (q : Int) + 1 := IntWalk.i64_in _ (by omega)
              have w2' : IntKind.i64.wrap ((q : Int) + 2) = (q : Int) + 2 := IntWalk.i64_in _ (by omega)
              have t1 : ((q : Int) + 1).toNat = q + 1 := by omega
              have i1 : (q : Int) + 1 < (m : Int) := by omega
              have i2 : (q : Int) < (m : Int) := by omega
              have i3 : (0 : Int) ≤ (q : Int) + 1 := by omega
              have ne1 : ¬ (Value.slice Ao no co).ownBlock = some bl := fun e => hR.out.ab bl e rfl
              have C0 : ∀ w', But (fun k => (Value.slice Ao no co).ownBlock = some k) wr w' → w'.cell? ⟨bl, fl + q, none⟩ = some (.string (mkB ta)) := fun w' h => h.c ne1 (HC.out _ _ _ _ _ hR.out).1
              have C1 : ∀ w', But (fun k => (Value.slice Ao no co).ownBlock = some k) wr w' → w'.cell? ⟨bl, fl + (q + 1), none⟩ = some (.string (mkB tb)) := fun w' h => h.c ne1 (HC.out _ _ _ _ _ hR.out).2
              clear la lb zx hq hltL
              go_wp2_with fail
              (refine wp_region_noPanic ?_; refine wp_region_held_drew (S := (fun w' => But (fun k => (Value.slice Ao no co).ownBlock = some k) wr w')) (by kernel_rfl) ?_ (fun hHeld => ?_); exact (But.drew (But.refl _ _)))
              (refine wpAnyH_take (i := 0) (oi := _) (v := ?_) rfl (by kernel_rfl) (by kernel_rfl) (by kernel_rfl) (fun _ _ _ h => h) (Or.inl ⟨?_, ?_⟩) (by assumption) ?_; rotate_left; (focus (first | rfl | (simp [Region.wanted, yielded]; done))); (focus (intro w hSw; (try dsimp only at hSw); go_simp; all_goals (with_reducible rfl))); try simp only [Act.put, List.getElem_toArray, List.getElem_cons_zero, List.getElem_cons_succ, List.setIfInBounds_toArray, List.set_cons_zero, List.set_cons_succ])
              (refine wpAnyH_take (i := 1) (oi := _) (v := ?_) rfl (by kernel_rfl) (by kernel_rfl) (by kernel_rfl) (fun _ _ _ h => h) (Or.inl ⟨?_, ?_⟩) (by assumption) ?_; rotate_left; (focus (first | rfl | (simp [Region.wanted, yielded]; done))); (focus (intro w hSw; (try dsimp only at hSw); go_simp; all_goals (with_reducible rfl))); try simp only [Act.put, List.getElem_toArray, List.getElem_cons_zero, List.getElem_cons_succ, List.setIfInBounds_toArray, List.set_cons_zero, List.set_cons_succ])
              (refine wpAnyH_take (i := 2) (oi := _) (v := ?_) rfl (by kernel_rfl) (by kernel_rfl) (by kernel_rfl) (fun _ _ _ h => h) (Or.inl ⟨?_, ?_⟩) (by assumption) ?_; rotate_left; (focus (first | rfl | (simp [Region.wanted, yielded]; done))); (focus (intro w hSw; (try dsimp only at hSw); go_simp; all_goals (with_reducible rfl))); try simp only [Act.put, List.getElem_toArray, List.getElem_cons_zero, List.getElem_cons_succ, List.setIfInBounds_toArray, List.set_cons_zero, List.set_cons_succ])
              (refine wpAnyH_take (i := 3) (oi := _) (v := ?_) rfl (by kernel_rfl) (by kernel_rfl) (by kernel_rfl) (fun _ _ _ h => h) (Or.inl ⟨?_, ?_⟩) (by assumption) ?_; rotate_left; (focus (first | rfl | (simp [Region.wanted, yielded]; done))); (focus (intro w hSw; (try dsimp only at hSw); go_simp; all_goals (with_reducible rfl))); try simp only [Act.put, List.getElem_toArray, List.getElem_cons_zero, List.getElem_cons_succ, List.setIfInBounds_toArray, List.set_cons_zero, List.set_cons_succ])
              (refine wpAnyH_take (i := 4) (oi := _) (v := ?_) rfl (by kernel_rfl) (by kernel_rfl) (by kernel_rfl) (fun _ _ _ h => h) (Or.inl ⟨?_, ?_⟩) (by assumption) ?_; rotate_left; (focus (first | rfl | (simp [Region.wanted, yielded]; done))); (focus (intro w hSw; (try dsimp only at hSw); go_simp; all_goals (with_reducible rfl))); try simp only [Act.put, List.getElem_toArray, List.getElem_cons_zero, List.getElem_cons_succ, List.setIfInBounds_toArray, List.set_cons_zero, List.set_cons_succ])
              (refine wpAnyH_take (i := 5) (oi := _) (v := ?_) rfl (by kernel_rfl) (by kernel_rfl) (by kernel_rfl) (fun _ _ _ h => h) (Or.inl ⟨?_, ?_⟩) (by assumption) ?_; rotate_left; (focus (first | rfl | (simp [Region.wanted, yielded]; done))); (focus (intro w hSw; (try dsimp only at hSw); go_simp; all_goals (with_reducible rfl))); try simp only [Act.put, List.getElem_toArray, List.getElem_cons_zero, List.getElem_cons_succ, List.setIfInBounds_toArray, List.set_cons_zero, List.set_cons_succ])
              (refine wpAnyH_take (i := 6) (oi := _) (v := ?_) rfl (by kernel_rfl) (by kernel_rfl) (by kernel_rfl) (fun _ _ _ h => h) (Or.inl ⟨?_, ?_⟩) (by assumption) ?_; rotate_left; (focus (first | rfl | (simp [Region.wanted, yielded]; done))); (focus (intro w hSw; (try dsimp only at hSw); go_simp; all_goals (with_reducible rfl))); try simp only [Act.put, List.getElem_toArray, List.getElem_cons_zero, List.getElem_cons_succ, List.setIfInBounds_toArray, List.set_cons_zero, List.set_cons_succ])
              (refine wpAnyH_take (i := 7) (oi := _) (v := ?_) rfl (by kernel_rfl) (by kernel_rfl) (by kernel_rfl) (fun _ _ _ h => h) (Or.inl ⟨?_, ?_⟩) (by assumption) ?_; rotate_left; (focus (first | rfl | (simp [Region.wanted, yielded]; done))); (focus (intro w hSw; (try dsimp only at hSw); go_simp; all_goals (with_reducible rfl))); try simp only [Act.put, List.getElem_toArray, List.getElem_cons_zero, List.getElem_cons_succ, List.setIfInBounds_toArray, List.set_cons_zero, List.set_cons_succ])
              (refine wpAnyH_take (i := 8) (oi := _) (v := ?_) rfl (by kernel_rfl) (by kernel_rfl) (by kernel_rfl) (fun _ _ _ h => h) (Or.inl ⟨?_, ?_⟩) (by assumption) ?_; rotate_left; (focus (first | rfl | (simp [Region.wanted, yielded]; done))); (focus (intro w hSw; (try dsimp only at hSw); go_simp; all_goals (with_reducible rfl))); try simp only [Act.put, List.getElem_toArray, List.getElem_cons_zero, List.getElem_cons_succ, List.setIfInBounds_toArray, List.set_cons_zero, List.set_cons_succ])
              (refine wpAnyH_take (i := 9) (oi := _) (v := ?_) rfl (by kernel_rfl) (by kernel_rfl) (by kernel_rfl) (fun _ _ _ h => h) (Or.inl ⟨?_, ?_⟩) (by assumption) ?_; rotate_left; (focus (first | rfl | (simp [Region.wanted, yielded]; done))); (focus (intro w hSw; (try dsimp only at hSw); go_simp; all_goals (with_reducible rfl))); try simp only [Act.put, List.getElem_toArray, List.getElem_cons_zero, List.getElem_cons_succ, List.setIfInBounds_toArray, List.set_cons_zero, List.set_cons_succ])
              (refine wpAnyH_ready (rs := [10]) (by kernel_rfl) (by simp) ?_; refine AllReadyH.cons (o := _) rfl (fun K hK => ?_) AllReadyH.nil; go_simp)
              refine (NC.out _).mono ?_
              rintro e w2 ⟨rfl, hb2'⟩
              have hb2 := drew_below hb2'
              (refine hK.out _ _ (But.trans hHeld (But.of_below hb2')) (fun hHeld2 => ?_); clear hK K hHeld; have hHeld := hHeld2; clear hHeld2; try simp only [Act.put, List.getElem_toArray, List.getElem_cons_zero, List.getElem_cons_succ, List.setIfInBounds_toArray, List.set_cons_zero, List.set_cons_succ])
              clear hb2'
              (refine wpAnyH_ready (rs := [11]) (by kernel_rfl) (by simp) ?_; refine AllReadyH.cons (o := _) rfl (fun K hK => ?_) AllReadyH.nil; go_simp)
              (refine hK.out _ _ (But.alloc hHeld _) (fun hHeld2 => ?_); clear hK K hHeld; have hHeld := hHeld2; clear hHeld2; try simp only [Act.put, List.getElem_toArray, List.getElem_cons_zero, List.getElem_cons_succ, List.setIfInBounds_toArray, List.set_cons_zero, List.set_cons_succ])
              (refine wpAnyH_ready (rs := [12]) (by kernel_rfl) (by simp) ?_; refine AllReadyH.cons (o := _) rfl (fun K hK => ?_) AllReadyH.nil)
              have R2 := Lib.hid ((hR.out.below hb2).alloc (.cells #[.string (mkB x)] 9))
              have hz2 : B ≤ w2.heap.size := Nat.le_trans hz hb2.size
              have O2 : Hid ((w2.alloc (.cells #[.string (mkB x)] 9)).ownsRow B 9 1 (.slice Ao no co) no _) := Lib.hid ((R2.out).oa.row)
              refine step_app1L rfl (.tmp 72) (.tmp 83) 22 rfl Tryd.underlying22 info_str rfl B (.slice Ao no co) no _ w2 (.string (mkB x)) rfl rfl rfl rfl O2.out hz2 (by omega) (by omega) ?_
              intro g3 c3 w3 hown3 hg3 hl3 hb3
              (refine hK.out _ _ (but_grown hHeld hg3 (fun g h => h)) (fun hHeld2 => ?_); clear hK K hHeld; have hHeld := hHeld2; clear hHeld2; try simp only [Act.put, List.getElem_toArray, List.getElem_cons_zero, List.getElem_cons_succ, List.setIfInBounds_toArray, List.set_cons_zero, List.set_cons_succ])
              (refine wpAnyH_take (i := 13) (oi := _) (v := ?_) rfl (by kernel_rfl) (by kernel_rfl) (by kernel_rfl) (fun _ _ _ h => h) (Or.inl ⟨?_, ?_⟩) (by assumption) ?_; rotate_left; (focus (first | rfl | (simp [Region.wanted, yielded]; done))); (focus (intro w hSw; (try dsimp only at hSw); go_simp; all_goals (with_reducible rfl))); try simp only [Act.put, List.getElem_toArray, List.getElem_cons_zero, List.getElem_cons_succ, List.setIfInBounds_toArray, List.set_cons_zero, List.set_cons_succ])
              (refine wpAnyH_done (by kernel_rfl) ?_ _; refine NoPanic.normal ?_)
              clear hHeld
              have R3a := Lib.hid (R3.grow R2.out (X' := (X ++ (Sl.texts L).take j) ++ [x]) ⟨no + 1, by (rw [List.length_append, ← HNO.out]) <;> rfl, by rw [sv_app, sv_one]; simpa only [List.append_assoc] using hown3⟩ hg3 (lies_slice hl3))
              have B3 := Lib.hid ((hbl.out.trans (hb2.mono hz)).trans hb3)
              have hz3 : B ≤ w3.heap.size := by have := B3.out.size; rw [HW.out]; exact this
              clear C0 C1 ne1 hown3 hg3 hl3 hb3 hb2 O2 R2 hR hbl hz hz2
              have ne2 : ¬ (Value.slice An nn cn).ownBlock = some bl := fun e => R3a.out.bc bl rfl e
              have C0 : ∀ w', But (fun k => (Value.slice An nn cn).ownBlock = some k) w3 w' → w'.cell? ⟨bl, fl + q, none⟩ = some (.string (mkB ta)) := fun w' h => h.c ne2 (HC.out _ _ _ _ _ R3a.out).1
              have C1 : ∀ w', But (fun k => (Value.slice An nn cn).ownBlock = some k) w3 w' → w'.cell? ⟨bl, fl + (q + 1), none⟩ = some (.string (mkB tb)) := fun w' h => h.c ne2 (HC.out _ _ _ _ _ R3a.out).2
              go_wp2_with fail
              (refine wp_region_noPanic ?_; refine wp_region_held_drew (S := (fun w' => But (fun k => (Value.slice An nn cn).ownBlock = some k) w3 w')) (by kernel_rfl) ?_ (fun hHeld => ?_); exact (But.drew (But.refl _ _)))
              (refine wpAnyH_take (i := 0) (oi := _) (v := ?_) rfl (by kernel_rfl) (by kernel_rfl) (by kernel_rfl) (fun _ _ _ h => h) (Or.inl ⟨?_, ?_⟩) (by assumption) ?_; rotate_left; (focus (first | rfl | (simp [Region.wanted, yielded]; done))); (focus (intro w hSw; (try dsimp only at hSw); go_simp; all_goals (with_reducible rfl))); try simp only [Act.put, List.getElem_toArray, List.getElem_cons_zero, List.getElem_cons_succ, List.setIfInBounds_toArray, List.set_cons_zero, List.set_cons_succ])
              (refine wpAnyH_take (i := 1) (oi := _) (v := ?_) rfl (by kernel_rfl) (by kernel_rfl) (by kernel_rfl) (fun _ _ _ h => h) (Or.inl ⟨?_, ?_⟩) (by assumption) ?_; rotate_left; (focus (first | rfl | (simp [Region.wanted, yielded]; done))); (focus (intro w hSw; (try dsimp only at hSw); go_simp; all_goals (with_reducible rfl))); try simp only [Act.put, List.getElem_toArray, List.getElem_cons_zero, List.getElem_cons_succ, List.setIfInBounds_toArray, List.set_cons_zero, List.set_cons_succ])
              (refine wpAnyH_take (i := 2) (oi := _) (v := ?_) rfl (by kernel_rfl) (by kernel_rfl) (by kernel_rfl) (fun _ _ _ h => h) (Or.inl ⟨?_, ?_⟩) (by assumption) ?_; rotate_left; (focus (first | rfl | (simp [Region.wanted, yielded]; done))); (focus (intro w hSw; (try dsimp only at hSw); go_simp; all_goals (with_reducible rfl))); try simp only [Act.put, List.getElem_toArray, List.getElem_cons_zero, List.getElem_cons_succ, List.setIfInBounds_toArray, List.set_cons_zero, List.set_cons_succ])
              (refine wpAnyH_take (i := 3) (oi := _) (v := ?_) rfl (by kernel_rfl) (by kernel_rfl) (by kernel_rfl) (fun _ _ _ h => h) (Or.inl ⟨?_, ?_⟩) (by assumption) ?_; rotate_left; (focus (first | rfl | (simp [Region.wanted, yielded]; done))); (focus (intro w hSw; (try dsimp only at hSw); go_simp; all_goals (with_reducible rfl))); try simp only [Act.put, List.getElem_toArray, List.getElem_cons_zero, List.getElem_cons_succ, List.setIfInBounds_toArray, List.set_cons_zero, List.set_cons_succ])
              (refine wpAnyH_take (i := 4) (oi := _) (v := ?_) rfl (by kernel_rfl) (by kernel_rfl) (by kernel_rfl) (fun _ _ _ h => h) (Or.inl ⟨?_, ?_⟩) (by assumption) ?_; rotate_left; (focus (first | rfl | (simp [Region.wanted, yielded]; done))); (focus (intro w hSw; (try dsimp only at hSw); go_simp; all_goals (with_reducible rfl))); try simp only [Act.put, List.getElem_toArray, List.getElem_cons_zero, List.getElem_cons_succ, List.setIfInBounds_toArray, List.set_cons_zero, List.set_cons_succ])
              (refine wpAnyH_take (i := 5) (oi := _) (v := ?_) rfl (by kernel_rfl) (by kernel_rfl) (by kernel_rfl) (fun _ _ _ h => h) (Or.inl ⟨?_, ?_⟩) (by assumption) ?_; rotate_left; (focus (first | rfl | (simp [Region.wanted, yielded]; done))); (focus (intro w hSw; (try dsimp only at hSw); go_simp; all_goals (with_reducible rfl))); try simp only [Act.put, List.getElem_toArray, List.getElem_cons_zero, List.getElem_cons_succ, List.setIfInBounds_toArray, List.set_cons_zero, List.set_cons_succ])
              (refine wpAnyH_take (i := 6) (oi := _) (v := ?_) rfl (by kernel_rfl) (by kernel_rfl) (by kernel_rfl) (fun _ _ _ h => h) (Or.inl ⟨?_, ?_⟩) (by assumption) ?_; rotate_left; (focus (first | rfl | (simp [Region.wanted, yielded]; done))); (focus (intro w hSw; (try dsimp only at hSw); go_simp; all_goals (with_reducible rfl))); try simp only [Act.put, List.getElem_toArray, List.getElem_cons_zero, List.getElem_cons_succ, List.setIfInBounds_toArray, List.set_cons_zero, List.set_cons_succ])
              (refine wpAnyH_take (i := 7) (oi := _) (v := ?_) rfl (by kernel_rfl) (by kernel_rfl) (by kernel_rfl) (fun _ _ _ h => h) (Or.inl ⟨?_, ?_⟩) (by assumption) ?_; rotate_left; (focus (first | rfl | (simp [Region.wanted, yielded]; done))); (focus (intro w hSw; (try dsimp only at hSw); go_simp; all_goals (with_reducible rfl))); try simp only [Act.put, List.getElem_toArray, List.getElem_cons_zero, List.getElem_cons_succ, List.setIfInBounds_toArray, List.set_cons_zero, List.set_cons_succ])
              (refine wpAnyH_take (i := 8) (oi := _) (v := ?_) rfl (by kernel_rfl) (by kernel_rfl) (by kernel_rfl) (fun _ _ _ h => h) (Or.inl ⟨?_, ?_⟩) (by assumption) ?_; rotate_left; (focus (first | rfl | (simp [Region.wanted, yielded]; done))); (focus (intro w hSw; (try dsimp only at hSw); go_simp; all_goals (with_reducible rfl))); try simp only [Act.put, List.getElem_toArray, List.getElem_cons_zero, List.getElem_cons_succ, List.setIfInBounds_toArray, List.set_cons_zero, List.set_cons_succ])
              (refine wpAnyH_take (i := 9) (oi := _) (v := ?_) rfl (by kernel_rfl) (by kernel_rfl) (by kernel_rfl) (fun _ _ _ h => h) (Or.inl ⟨?_, ?_⟩) (by assumption) ?_; rotate_left; (focus (first | rfl | (simp [Region.wanted, yielded]; done))); (focus (intro w hSw; (try dsimp only at hSw); go_simp; all_goals (with_reducible rfl))); try simp only [Act.put, List.getElem_toArray, List.getElem_cons_zero, List.getElem_cons_succ, List.setIfInBounds_toArray, List.set_cons_zero, List.set_cons_succ])
              (refine wpAnyH_ready (rs := [10]) (by kernel_rfl) (by simp) ?_; refine AllReadyH.cons (o := _) rfl (fun K hK => ?_) AllReadyH.nil; go_simp)
              refine (NC.out _).mono ?_
              rintro e w4 ⟨rfl, hb4'⟩
              have hb4 := drew_below hb4'
              (refine hK.out _ _ (But.trans hHeld (But.of_below hb4')) (fun hHeld2 => ?_); clear hK K hHeld; have hHeld := hHeld2; clear hHeld2; try simp only [Act.put, List.getElem_toArray, List.getElem_cons_zero, List.getElem_cons_succ, List.setIfInBounds_toArray, List.set_cons_zero, List.set_cons_succ])
              clear hb4'
              (refine wpAnyH_ready (rs := [11]) (by kernel_rfl) (by simp) ?_; refine AllReadyH.cons (o := _) rfl (fun K hK => ?_) AllReadyH.nil; go_simp)
              refine (RS.out _).mono ?_
              rintro e w5 ⟨rfl, rfl⟩
              (refine hK.out _ _ hHeld (fun hHeld2 => ?_); clear hK K hHeld; have hHeld := hHeld2; clear hHeld2; try simp only [Act.put, List.getElem_toArray, List.getElem_cons_zero, List.getElem_cons_succ, List.setIfInBounds_toArray, List.set_cons_zero, List.set_cons_succ])
              (refine wpAnyH_ready (rs := [12]) (by kernel_rfl) (by simp) ?_; refine AllReadyH.cons (o := _) rfl (fun K hK => ?_) AllReadyH.nil; go_simp)
              (refine hK.out _ _ (But.alloc hHeld _) (fun hHeld2 => ?_); clear hK K hHeld; have hHeld := hHeld2; clear hHeld2; try simp only [Act.put, List.getElem_toArray, List.getElem_cons_zero, List.getElem_cons_succ, List.setIfInBounds_toArray, List.set_cons_zero, List.set_cons_succ])
              (refine wpAnyH_ready (rs := [13]) (by kernel_rfl) (by simp) ?_; refine AllReadyH.cons (o := _) rfl (fun K hK => ?_) AllReadyH.nil)
              have R4 := Lib.hid ((R3a.out.below hb4).alloc (.cells #[.string (mkB d)] 9)).turn
              have hz4 : B ≤ w4.heap.size := Nat.le_trans hz3 hb4.size
              have O4 : Hid ((w4.alloc (.cells #[.string (mkB d)] 9)).ownsRow B 9 1 (.slice An nn cn) nn _) := Lib.hid ((R4.out).oa.row)
              refine step_app1L rfl (.tmp 85) (.tmp 97) 22 rfl Tryd.underlying22 info_str rfl B (.slice An nn cn) nn _ w4 (.string (mkB d)) rfl rfl rfl rfl O4.out hz4 (by omega) (by omega) ?_
              intro g5 c5 w5 hown5 hg5 hl5 hb5
              (refine hK.out _ _ (but_grown hHeld hg5 (fun g h => h)) (fun hHeld2 => ?_); clear hK K hHeld; have hHeld := hHeld2; clear hHeld2; try simp only [Act.put, List.getElem_toArray, List.getElem_cons_zero, List.getElem_cons_succ, List.setIfInBounds_toArray, List.set_cons_zero, List.set_cons_succ])
              (refine wpAnyH_take (i := 14) (oi := _) (v := ?_) rfl (by kernel_rfl) (by kernel_rfl) (by kernel_rfl) (fun _ _ _ h => h) (Or.inl ⟨?_, ?_⟩) (by assumption) ?_; rotate_left; (focus (first | rfl | (simp [Region.wanted, yielded]; done))); (focus (intro w hSw; (try dsimp only at hSw); go_simp; all_goals (with_reducible rfl))); try simp only [Act.put, List.getElem_toArray, List.getElem_cons_zero, List.getElem_cons_succ, List.setIfInBounds_toArray, List.set_cons_zero, List.set_cons_succ])
              (refine wpAnyH_done (by kernel_rfl) ?_ _; refine NoPanic.normal ?_)
              clear hHeld
              have R5 := Lib.hid (R3.grow R4.out (X' := (Sl.up L).take j ++ [d]) ⟨nn + 1, by (rw [List.length_append, ← HNN.out]) <;> rfl, by rw [sv_app, sv_one]; simpa only [List.append_assoc] using hown5⟩ hg5 (lies_slice hl5)).turn
              have B5 := Lib.hid ((B3.out.trans (hb4.mono hz3)).trans hb5)
              have NX : Hid (R3 w5 B (.slice (some ⟨g3, 0, none⟩) (no + 1) c3) (.slice (some ⟨bl, fl, none⟩) m c) (.slice (some ⟨g5, 0, none⟩) (nn + 1) c5) (X ++ (Sl.texts L).take (j + 1)) L ((Sl.up L).take (j + 1))) := Lib.hid (by
                rw [TS.out, US.out, ← List.append_assoc]; exact R5.out)
              clear C0 C1 ne2 hown5 hg5 hl5 hb5 hb4 O4 R4 R3a R5 hz3 hz4 B3
              go_wp2_with fail
              exact ⟨⟨j + 1, _, _, by have := HQ.out; omega, by rw [show 2 * (j + 1) = q + 2 by have := HQ.out; omega]; go_num, rfl, rfl, NX, B5⟩, by simp [intOf]; omega⟩
            · have TE : (Sl.texts L).take j = Sl.texts L := List.take_of_length_le (by rw [TL.out, HM.out]; omega)
              have UE : (Sl.up L).take j = Sl.up L := List.take_of_length_le (by rw [UL.out, HM.out]; omega)
              have R5 := hR.out
              rw [TE, UE] at R5
              have hn5 := HNN.out
              rw [UE] at hn5
              have NX := NXT.out (.slice Ao no co) An cn wr (by rw [← hn5]; exact R5.skip) hbl.out
              rw [← hn5] at NX
              have NX2 := Lib.hid NX
              have LN : Hid (nn < m) := Lib.hid (by rw [hn5, UL.out, HM.out]; omega)
              obtain ⟨q, hq⟩ : ∃ q, 2 * j = q := ⟨_, rfl⟩
              rw [hq] at hlt hj ⊢
              have w1' : IntKind.i64.wrap ((q : Int) + 1) = (q : Int) + 1 := IntWalk.i64_in _ (by omega)
              have i1 : ¬ (q : Int) + 1 < (m : Int) := by omega
              clear hq NX hn5 R5 TE UE HNN HNO hR
              go_wp2_with fail
              exact ⟨⟨_, _, rfl, rfl, NX2⟩, by simpa [slLen] using LN.out⟩
end Go.Proofs.YthceonkdmcidcaaDoor
