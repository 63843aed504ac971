import Derived.Test.YtniklmikdkjgiaaGreatDoorCTB
import Derived.Test.YtniklmikdkjgiaaGreatDoorCXO
import Derived.Test.YtniklmikdkjgiaaGreatDoorCXQ
import Derived.Test.YtniklmikdkjgiaaGreatDoorWD
set_option linter.all false
set_option maxHeartbeats 16000000
set_option maxRecDepth 100000
namespace Go.Proofs.YtniklmikdkjgiaaGreatDoor
open Go.RowKit
def midF (o : At.Ob) : List Tx := if o.kind = 1 then [Dg.dec o.x.toNat, Dg.dec o.y.toNat] else [[40] ++ joinL o.refs [32] ++ [41]]
def r11T (o : At.Ob) : Tx × Nat := if At.validO o then limT (joinL ([wordF o.kind, o.id] ++ midF o ++ o.tags.map fun t => tagW t.1 t.2) [32]) else ([], 1)
def MidOk (o : At.Ob) (mid : List Tx) : Prop := mid = midF o ∨ (∃ t, mid = [t] ∧ 20000 < t.length ∧ 20000 < ([40] ++ joinL o.refs [32] ++ [41]).length ∧ o.kind ≠ 1)
theorem join_mem {L : List Tx} {x : Tx} (h : x ∈ L) : x.length ≤ (joinL L [32]).length := by
 induction L with
 | nil => cases h
 | cons a L ih =>
  unfold joinL at ih ⊢
  rw [Lib.join_cons]
  rcases List.mem_cons.1 h with rfl | h
  ·rw [List.length_append]; omega
  ·cases L with
   | nil => cases h
   | cons b L =>
    have := ih h
    rw [Lib.join_cons] at this
    rw [List.length_append]
    have e : (Lib.joinTail [32] (b :: L)) = [32] ++ b ++ Lib.joinTail [32] L := by simp [Lib.joinTail]
    rw [e]
    simp only [List.length_append] at this ⊢
    omega
theorem limT_long {t : Tx} (h : 20000 < t.length) : limT t = ([], 2) := by unfold limT; rw [if_pos h]
theorem lim_same {o : At.Ob} {mid : List Tx} (h : MidOk o mid) (a ts : List Tx) : limT (joinL (a ++ mid ++ ts) [32]) = limT (joinL (a ++ midF o ++ ts) [32]) := by
 rcases h with rfl | ⟨t, rfl, h1, h2, hk⟩
 ·rfl
 ·rw [limT_long (Nat.lt_of_lt_of_le h1 (join_mem (by simp)))]
  have hm : ([40] ++ joinL o.refs [32] ++ [41]) ∈ a ++ midF o ++ ts := by unfold midF; rw [if_neg hk]; simp
  rw [limT_long (Nat.lt_of_lt_of_le h2 (join_mem hm))]
theorem join_take_le (l : List Tx) : ∀ k, k ≤ l.length → (joinL (l.take k) [32]).length ≤ (joinL l [32]).length := by
 intro k hk
 have g : ∀ n, n ≤ l.length → n ≥ k → (joinL (l.take k) [32]).length ≤ (joinL (l.take n) [32]).length := by
  intro n
  induction n with
  | zero => intro _ h; obtain rfl : k = 0 := by omega
            exact Nat.le_refl _
  | succ n ih =>
   intro h1 h2
   rcases Nat.lt_or_ge n k with h3 | h3
   ·obtain rfl : k = n + 1 := by omega
    exact Nat.le_refl _
   ·refine Nat.le_trans (ih (by omega) h3) ?_
    rw [joinL_take [32] (show n < l.length by omega)]
    split
    ·next e => subst e; simp [joinL, Lib.join]
    ·simp only [List.length_append]; omega
 have := g l.length (Nat.le_refl _) hk
 rwa [List.take_length] at this
theorem own_lit {u : World} {B n : Nat} {T : TypeId} {cs : Array Value} (hb : B ≤ u.heap.size) (hn : cs.size = n) (hm : n ≤ 1000) : (u.alloc (.cells cs T)).ownsRow B T 1 (.slice (some ⟨u.heap.size, 0, none⟩) n n) n cs.toList :=
 ⟨by rw [Array.length_toList]; omega, .inr ⟨u.heap.size, n, cs, rfl, hb, heap_alloc_new u _, Nat.le_refl _, by unfold maxLen; omega, by omega, by rw [List.take_of_length_le (by rw [Array.length_toList]; omega)]⟩⟩
theorem own_lit2 {W u : World} {T : TypeId} {cs : Array Value} (n : Nat) (h : OldB W (u.alloc (.cells cs T))) (hw : OldB W u) (hn : cs.size = n) (hm : n ≤ 1000) : (u.alloc (.cells cs T)).ownsRow W.heap.size T 1 (.slice (some ⟨u.heap.size, 0, none⟩) n n) n cs.toList := own_lit (Below.size hw) hn hm
theorem OldB.then3 {W u w' : World} (h : OldB W u) (k : Below W.heap.size u w') : OldB W w' := Below.trans h k
theorem own_base_le {w : World} {B size n : Nat} {e : TypeId} {v : Value} {xs : List Value} (h : w.ownsRow B e size v n xs) {g : Nat} (hg : v.ownBlock = some g) : B ≤ g := by
 rcases h.2 with ⟨rfl, -⟩ | ⟨g', cap, cur, rfl, h1, -⟩
 ·cases hg
 ·injection hg with hg
  exact hg ▸ h1
theorem two_rd {W u : World} (_ : OldB W u) (a b : Tx) : Rd (u.alloc (.cells #[.string (mkB a), .string (mkB b)] 9)) (some ⟨u.heap.size, 0, none⟩) (strsC [a, b]) := Rd.of_row (heap_alloc_new u _) (List.prefix_refl _)
theorem one_rdv {W u : World} (_ : OldB W u) (v : Value) : Rd (u.alloc (.cells #[v] 9)) (some ⟨u.heap.size, 0, none⟩) [v] := Rd.of_row (heap_alloc_new u _) (List.prefix_refl _)
theorem rtext11_any (o : RO) (w : World) (h : ObIs w o) (hs : ObSz o.c) :
  Calls Tryz.prog 185 #[roA o] w fun e w' => e = .returned (.tuple #[.string (mkB (r11T o.c).1), .int .i64 ((r11T o.c).2 : Int)]) ∧ Below w.heap.size w w' := by
 have VC0 := fun u (hu : Below w.heap.size w u) => r11valid_any o u (h.below hu) hs
 obtain ⟨⟨A1, c1, v1, r1⟩, ⟨A2, c2, v2, r2⟩⟩ := h
 unfold roA at VC0 ⊢
 rw [v1, v2] at VC0 ⊢
 obtain ⟨nr, hnr⟩ : ∃ n, n = o.c.refs.length := ⟨_, rfl⟩
 obtain ⟨nt, hnt⟩ : ∃ n, n = o.c.tags.length := ⟨_, rfl⟩
 have NR := Lib.hid hnr
 have NT := Lib.hid hnt
 rw [← hnr, ← hnt] at VC0 ⊢
 obtain ⟨X, hX⟩ : ∃ X, X = w.alloc (.cells #[.string (mkB o.c.id), .int .i64 o.c.kind, .int .i64 o.c.x, .int .i64 o.c.y, .slice A1 nr c1, .slice A2 nt c2] 91) := ⟨_, rfl⟩
 have BX : Below w.heap.size w X := by rw [hX]; exact (Below.refl _ _).alloc (Nat.le_refl _) _
 have XX : X.heap[w.heap.size]? = some (.cells #[.string (mkB o.c.id), .int .i64 o.c.kind, .int .i64 o.c.x, .int .i64 o.c.y, .slice A1 nr c1, .slice A2 nt c2] 91 (0, 0)) := by rw [hX]; exact heap_alloc_new w _
 have XL := lt_of_block XX
 have CX : Hid (∀ u, OldB X u → u.heap[w.heap.size]? = some (.cells #[.string (mkB o.c.id), .int .i64 o.c.kind, .int .i64 o.c.x, .int .i64 o.c.y, .slice A1 nr c1, .slice A2 nt c2] 91 (0, 0))) := Lib.hid (fun u hu => (hu.block _ XL).trans XX)
 have VC := Lib.hid (VC0 X BX)
 have RR := Lib.hid (r1.below BX)
 have RT := Lib.hid (r2.below BX)
 have BH := Lib.hid BX
 have x0 := load_block (i := 0) XX rfl
 have x1 := load_block (i := 1) XX rfl
 have x2 := load_block (i := 2) XX rfl
 have x3 := load_block (i := 3) XX rfl
 have x4 := load_block (i := 4) XX rfl
 have x5 := load_block (i := 5) XX rfl
 have X0 := Lib.hid hX
 have FE : Hid (r11T o.c = if At.validO o.c then limT (joinL ([wordF o.c.kind, o.c.id] ++ midF o.c ++ o.c.tags.map fun t => tagW t.1 t.2) [32]) else ([], 1)) := Lib.hid rfl
 generalize r11T o.c = R at *
 clear VC0 r1 r2 v1 v2 hX XX BX XL hnr hnt
 go_enter Tryz.func185, Tryz.ntmps185
 go_upto_region 1 with fail
 rw [← X0.out]
 clear X0
 go_wp2_with fail
 (with_reducible refine VC.out.mono ?_)
 rintro e u1 ⟨rfl, b1⟩
 have O1 : OldB X u1 := b1
 have B1 := Lib.hid (BH.out.trans (b1.mono BH.out.size))
 have CU : Hid (∀ u, OldB u1 u → u.heap[w.heap.size]? = some (.cells #[.string (mkB o.c.id), .int .i64 o.c.kind, .int .i64 o.c.x, .int .i64 o.c.y, .slice A1 nr c1, .slice A2 nt c2] 91 (0, 0))) := Lib.hid (fun u hu => CX.out u (O1.then hu))
 have RR1 := Lib.hid (RR.out.below b1)
 have RT1 := Lib.hid (RT.out.below b1)
 clear b1 VC x0 x1 x2 x3 x4 x5 BH RR RT CX
 cases hv : At.validO o.c
 ·have PF : Hid (R = ([], 1)) := Lib.hid (by rw [FE.out, hv]; rfl)
  clear hv FE
  go_wp2_with fail
  go_ret2
  exact ⟨by rw [PF.out]; rfl, B1.out⟩
 have FE := Lib.hid (FE.out.trans (by rw [hv, if_pos rfl]))
 have FIT := validO_fit hv
 have TS := tags_small FIT.tags
 clear hv
 have y0 : ∀ u, OldB u1 u → u.cell? ⟨w.heap.size, 0, none⟩ = some (.string (mkB o.c.id)) := fun u hu => load_block (i := 0) (CU.out u hu) rfl
 have y1 : ∀ u, OldB u1 u → u.cell? ⟨w.heap.size, 1, none⟩ = some (.int .i64 o.c.kind) := fun u hu => load_block (i := 1) (CU.out u hu) rfl
 have y2 : ∀ u, OldB u1 u → u.cell? ⟨w.heap.size, 2, none⟩ = some (.int .i64 o.c.x) := fun u hu => load_block (i := 2) (CU.out u hu) rfl
 have y3 : ∀ u, OldB u1 u → u.cell? ⟨w.heap.size, 3, none⟩ = some (.int .i64 o.c.y) := fun u hu => load_block (i := 3) (CU.out u hu) rfl
 have y4 : ∀ u, OldB u1 u → u.cell? ⟨w.heap.size, 4, none⟩ = some (.slice A1 nr c1) := fun u hu => load_block (i := 4) (CU.out u hu) rfl
 have y5 : ∀ u, OldB u1 u → u.cell? ⟨w.heap.size, 5, none⟩ = some (.slice A2 nt c2) := fun u hu => load_block (i := 5) (CU.out u hu) rfl
 have WD := Lib.hid (fun u => rrword_any o.c.kind u)
 have WL := wordF_le o.c.kind
 have IL := FIT.id
 have ntl : nt ≤ 60 := by rw [NT.out]; exact TS.1
 have nrl : nr ≤ 2000 := by rw [NR.out]; exact FIT.refs
 go_upto_region 3 with fail
 (refine wp_region_noPanic ?_; refine wp_region_held_drew (S := (OldB u1)) (by kernel_rfl) ?_ (fun hHeld => ?_); exact Below.drew (Below.refl _ _))
 (refine tkW 0 ?_; try simp only [gmS])
 (refine tkW 1 ?_; try simp only [gmS])
 (refine tkW 3 ?_; try simp only [gmS])
 (refine tkW 4 ?_; try simp only [gmS])
 refine rdR 2 (fun K hK => ?_)
 go_simp
 (with_reducible refine (WD.out _).mono ?_)
 rintro e u2 ⟨rfl, b2⟩
 (refine hK.out _ _ (OldB.then hHeld b2) (fun hHeld2 => ?_); clear hK K hHeld; have hHeld := hHeld2; clear hHeld2; try simp only [gmS])
 refine rdR 5 (fun K hK => ?_)
 go_simp
 have OZ := Lib.hid (own_lit2 2 (OldB.alloc hHeld (.cells #[.string (mkB (wordF o.c.kind)), .string (mkB o.c.id)] 9)) hHeld rfl (by decide))
 (refine hK.out _ _ (OldB.alloc hHeld _) (fun hHeld2 => ?_); clear hK K hHeld; have hHeld := hHeld2; clear hHeld2; try simp only [gmS])
 (refine tkW 6 ?_; try simp only [gmS])
 have OW3 := Lib.hid hHeld
 (refine wpAnyH_done (by kernel_rfl) ?_ _; refine NoPanic.normal ?_)
 clear hHeld b2 WD
 generalize u2.alloc (.cells #[.string (mkB (wordF o.c.kind)), .string (mkB o.c.id)] 9) = U at *
 generalize u2.heap.size = g2 at *
 go_upto_region 4 with fail
 have k1u := y1 _ OW3.out
 go_upto_if 21 with fail
 go_cut [4] (fun s4 wx => ∃ mid, MidOk o.c mid ∧ mid.length ≤ 2 ∧ (∀ t ∈ mid, t.length ≤ 100000) ∧ Hid (wx.ownsRow u1.heap.size 9 1 s4 (2 + mid.length) (strsC ([wordF o.c.kind, o.c.id] ++ mid))) ∧ Hid (OldB u1 wx))
 case first =>
  by_cases hk1 : o.c.kind = 1
  ·have g1 : (o.c.kind == 1) = true := by rw [hk1]; rfl
   have MF : Hid (midF o.c = [Dg.dec o.c.x.toNat, Dg.dec o.c.y.toNat]) := Lib.hid (by unfold midF; rw [if_pos hk1])
   obtain ⟨q1, q2, q3, q4⟩ := FIT.at_ hk1
   obtain ⟨nx, hnx⟩ : ∃ n : Nat, o.c.x = (n : Int) := ⟨o.c.x.toNat, by omega⟩
   obtain ⟨ny, hny⟩ : ∃ n : Nat, o.c.y = (n : Int) := ⟨o.c.y.toNat, by omega⟩
   rw [hnx] at MF q3
   rw [hny] at MF q4
   rw [hnx] at y2
   rw [hny] at y3
   simp only [Int.toNat_natCast] at MF
   have DX := Lib.hid (fun u => r8dec_any nx (by omega) u)
   have DY := Lib.hid (fun u => r8dec_any ny (by omega) u)
   have LX := dec_len 19 nx (by omega) (by decide)
   have LY := dec_len 19 ny (by omega) (by decide)
   clear hk1 hnx hny q1 q2 q3 q4
   generalize Dg.dec nx = tx at *
   generalize Dg.dec ny = ty at *
   go_upto_region 5 with fail
   (refine wp_region_noPanic ?_; refine wp_region_held_drew (S := (OldB u1)) (by kernel_rfl) ?_ (fun hHeld => ?_); exact Below.drew OW3.out)
   have OZ := Lib.hid (show U.drew.ownsRow u1.heap.size 9 1 (.slice (some ⟨g2, 0, none⟩) 2 2) 2 (strsC [wordF o.c.kind, o.c.id]) from OZ.out)
   generalize U.drew = ud at *
   (refine tkW 0 ?_; try simp only [gmS])
   (refine tkW 1 ?_; try simp only [gmS])
   (refine tkW 2 ?_; try simp only [gmS])
   (refine tkW 3 ?_; try simp only [gmS])
   (refine tkW 5 ?_; try simp only [gmS])
   (refine tkW 6 ?_; try simp only [gmS])
   (refine tkW 7 ?_; try simp only [gmS])
   refine rdR 4 (fun K hK => ?_)
   go_simp
   (with_reducible refine (DX.out _).mono ?_)
   rintro e u3 ⟨rfl, rfl⟩
   (refine hK.out _ _ hHeld (fun hHeld2 => ?_); clear hK K hHeld; have hHeld := hHeld2; clear hHeld2; try simp only [gmS])
   refine rdR 8 (fun K hK => ?_)
   go_simp
   (with_reducible refine (DY.out _).mono ?_)
   rintro e u4 ⟨rfl, rfl⟩
   (refine hK.out _ _ hHeld (fun hHeld2 => ?_); clear hK K hHeld; have hHeld := hHeld2; clear hHeld2; try simp only [gmS])
   refine rdR 9 (fun K hK => ?_)
   go_simp
   have OZ := Lib.hid (own_below OZ.out ((Below.refl _ _).alloc (Nat.le_refl _) (.cells #[.string (mkB tx), .string (mkB ty)] 9)) (Nat.le_refl _))
   have LR := Lib.hid (two_rd hHeld tx ty)
   (refine hK.out _ _ (OldB.alloc hHeld _) (fun hHeld2 => ?_); clear hK K hHeld; have hHeld := hHeld2; clear hHeld2; try simp only [gmS])
   refine rdR 10 (fun K hK => ?_)
   refine wp_appF (.tmp 22) (.tmp 31) 35 rfl Tryz.underlying35 info_strG rfl (by decide) u1.heap.size _ 2 (strsC [wordF o.c.kind, o.c.id]) _ 2 2 (strsC [tx, ty]) (by intro y hy; simp [strsC] at hy; rcases hy with rfl | rfl <;> rfl) rfl rfl OZ.out LR.out rfl (Below.size (show Below _ _ _ from hHeld)) (by decide) (by decide) ?_
   intro v3 w3 ho3 hg3 hq3
   have BG := Lib.hid (grown_below hg3 (fun k hk => own_base_le OZ.out hk) (Below.size (show Below _ _ _ from hHeld)))
   (refine hK.out _ _ (OldB.then3 hHeld BG.out) (fun hHeld2 => ?_); clear hK K hHeld; have hHeld := hHeld2; clear hHeld2; try simp only [gmS])
   (refine tkW 11 ?_; try simp only [gmS])
   have OQ := Lib.hid hHeld
   (refine wpAnyH_done (by kernel_rfl) ?_ _; refine NoPanic.normal ?_)
   go_wp2_with fail
   go_meet
   case rel => exact ⟨[tx, ty], .inl MF.out.symm, Nat.le_refl _, (by intro t ht; simp at ht; rcases ht with rfl | rfl <;> omega), Lib.hid ho3, OQ⟩
  ·have g1 : (o.c.kind == 1) = false := by simpa using hk1
   have HK := Lib.hid hk1
   have JLL : Hid (∀ k, (joinL (o.c.refs.take k) [32]).length ≤ 50000) := Lib.hid (fun k => by
    refine Nat.le_trans (join_len [32] 24 (o.c.refs.take k) (fun t ht => FIT.ref t (List.mem_of_mem_take ht))) ?_
    have : (o.c.refs.take k).length ≤ 2000 := by rw [List.length_take]; rw [NR.out] at nrl; omega
    simp only [List.length_singleton]
    omega)
   have RRU := Lib.hid (RR1.out.below OW3.out)
   have y4U := y4 U OW3.out
   have bzz : u1.heap.size ≤ U.heap.size := Below.size OW3.out
   have JT : Hid (∀ k, k ≤ o.c.refs.length → (joinL (o.c.refs.take k) [32]).length ≤ (joinL o.c.refs [32]).length) := Lib.hid (join_take_le o.c.refs)
   have RF : Hid (∀ t ∈ o.c.refs, t.length ≤ 24) := Lib.hid FIT.ref
   have J0 : joinL (o.c.refs.take 0) [32] = [] := rfl
   clear hk1 k1u y0 y1 y2 y3 y5 FIT TS
   go_wp2_with fail
   go_loopw [5, 6] (fun s5 s6 wr => ∃ k : Nat, k ≤ nr ∧ s6 = .int .i64 (k : Int) ∧ s5 = .string (mkB (joinL (o.c.refs.take k) [32])) ∧ Hid (U = wr)) (fun _ i _ => nr - (intOf i).toNat)
   case atStart => exact ⟨0, Nat.zero_le _, rfl, rfl, Lib.hid rfl⟩
   case round =>
    obtain ⟨k, hkn, rfl, rfl, EW⟩ := hrel
    have EW2 := EW.out.symm
    subst EW2
    have J1 := JLL.out k
    have J2 := JT.out k (by rw [← NR.out]; exact hkn)
    have kk0 : (0 : Int) ≤ (k : Int) := by omega
    by_cases hlt : k < nr
    ·have hkl : k < o.c.refs.length := by rw [← NR.out]; exact hlt
     have d1 : (k : Int) < (nr : Int) := by omega
     have d2 : (0 : Int) ≤ (k : Int) := by omega
     have mj0 := mkB_len (joinL (o.c.refs.take k) [32])
     by_cases h2 : (joinL (o.c.refs.take k) [32]).length ≤ 20000
     ·have e2 : decide (((joinL (o.c.refs.take k) [32]).length : Int) ≤ 20000) = true := decide_eq_true (by omega)
      have e3 : ((joinL (o.c.refs.take k) [32]).length : Int) ≤ 20000 := by omega
      obtain ⟨b, off, rfl, hb, c0⟩ := strs_at RRU.out hkl
      have TK := Lib.hid (joinL_take [32] hkl)
      have hz := RF.out o.c.refs[k] (List.getElem_mem hkl)
      have mz := mkB_len o.c.refs[k]
      have JZ : Hid (k = 0 → joinL (o.c.refs.take k) [32] = []) := Lib.hid (fun e => by subst e; rfl)
      generalize o.c.refs[k] = s at *
      generalize joinL (o.c.refs.take k) [32] = J at *
      have zj : (mkB J).size ≤ 50000 := by omega
      have zs : (mkB s).size ≤ 24 := by omega
      by_cases h0 : k = 0
      ·have d3 : ¬ (0 : Int) < (k : Int) := by omega
       have T2 : Hid (joinL (o.c.refs.take (k + 1)) [32] = s) := Lib.hid (by rw [TK.out, if_pos h0]; rfl)
       have JE := JZ.out h0
       subst JE
       clear TK h0 JZ J1 J2 mz hz h2
       go_wp2_with fail
       refine ⟨⟨k + 1, by omega, by go_num, ?_, Lib.hid (by first | rfl | trivial)⟩, by simp [intOf]; omega⟩
       rw [T2.out]
       first
        | rfl
        | (show Value.string (mkB [] ++ mkB s) = _; rw [mkB_app]; rfl)
      ·have d3 : (0 : Int) < (k : Int) := by omega
       have T2 : Hid (joinL (o.c.refs.take (k + 1)) [32] = J ++ [32] ++ s) := Lib.hid (by rw [TK.out, if_neg h0])
       clear TK h0 JZ J1 J2 mz hz h2
       go_wp2_with fail
       refine ⟨⟨k + 1, by omega, by go_num, ?_, Lib.hid (by first | rfl | trivial)⟩, by simp [intOf]; omega⟩
       rw [T2.out, ← mkB_app, ← mkB_app]; rfl
     ·have e2 : decide (((joinL (o.c.refs.take k) [32]).length : Int) ≤ 20000) = false := decide_eq_false (by omega)
      have e3 : ¬ ((joinL (o.c.refs.take k) [32]).length : Int) ≤ 20000 := by omega
      generalize joinL (o.c.refs.take k) [32] = J at *
      have mj := mkB_len J
      have zj : (mkB J).size ≤ 100000 := by omega
      clear mj
      go_wp2_with (at_builtin; refine wpList_appNG rfl (.tmp 56) (.tmp 60) 35 rfl Tryz.underlying35 info_strG rfl (by decide) u1.heap.size _ 2 (strsC [wordF o.c.kind, o.c.id]) _ 1 (by decide) rfl (by intro y hy; simp at hy; rw [hy]; rfl) rfl rfl rfl OZ.out bzz (by decide) (by decide) ?_; intro g7 c7 w7 ho7 hg7 hl7 hb7)
      have OQ := Lib.hid (OldB.then3 OW3.out hb7)
      have EQ : mkB ([40] ++ J ++ [41]) = (⟨#[40]⟩ : ByteArray) ++ mkB J ++ ⟨#[41]⟩ := by rw [← mkB_app, ← mkB_app]; rfl
      go_meet
      case rel =>
       refine ⟨[[40] ++ J ++ [41]], (.inr ⟨_, rfl, by simp; omega, by simp; omega, HK.out⟩), (by show 1 ≤ 2; decide), (by intro t ht; simp at ht; subst ht; simp; omega), Lib.hid ?_, OQ⟩
       have : strsC ([wordF o.c.kind, o.c.id] ++ [[40] ++ J ++ [41]]) = strsC [wordF o.c.kind, o.c.id] ++ [.string ((⟨#[40]⟩ : ByteArray) ++ mkB J ++ ⟨#[41]⟩)] := by rw [← EQ]; rfl
       rw [this]
       exact ho7
    ·have d1 : ¬ (k : Int) < (nr : Int) := by omega
     have TE : Hid (joinL (o.c.refs.take k) [32] = joinL o.c.refs [32]) := Lib.hid (by rw [List.take_of_length_le (by rw [← NR.out]; omega)])
     have MF : Hid (midF o.c = [[40] ++ joinL (o.c.refs.take k) [32] ++ [41]]) := Lib.hid (by unfold midF; rw [if_neg HK.out, TE.out])
     generalize joinL (o.c.refs.take k) [32] = J at *
     have mj := mkB_len J
     have zj : (mkB J).size ≤ 100000 := by omega
     clear mj
     go_wp2_with (at_builtin; refine wpList_appNG rfl (.tmp 56) (.tmp 60) 35 rfl Tryz.underlying35 info_strG rfl (by decide) u1.heap.size _ 2 (strsC [wordF o.c.kind, o.c.id]) _ 1 (by decide) rfl (by intro y hy; simp at hy; rw [hy]; rfl) rfl rfl rfl OZ.out bzz (by decide) (by decide) ?_; intro g7 c7 w7 ho7 hg7 hl7 hb7)
     have OQ := Lib.hid (OldB.then3 OW3.out hb7)
     have EQ : mkB ([40] ++ J ++ [41]) = (⟨#[40]⟩ : ByteArray) ++ mkB J ++ ⟨#[41]⟩ := by rw [← mkB_app, ← mkB_app]; rfl
     go_meet
     case rel =>
      refine ⟨[[40] ++ J ++ [41]], (.inl MF.out.symm), (by show 1 ≤ 2; decide), (by intro t ht; simp at ht; subst ht; simp; omega), Lib.hid ?_, OQ⟩
      have : strsC ([wordF o.c.kind, o.c.id] ++ [[40] ++ J ++ [41]]) = strsC [wordF o.c.kind, o.c.id] ++ [.string ((⟨#[40]⟩ : ByteArray) ++ mkB J ++ ⟨#[41]⟩)] := by rw [← EQ]; rfl
      rw [this]
      exact ho7
 case rest =>
  obtain ⟨mid, MO, ML, MS, OWN, OCH⟩ := hcut
  have PF : Hid (R = limT (joinL ([wordF o.c.kind, o.c.id] ++ mid ++ o.c.tags.map fun t => tagW t.1 t.2) [32])) := Lib.hid (FE.out.trans (lim_same MO _ _).symm)
  have PS : Hid (∀ t ∈ [wordF o.c.kind, o.c.id] ++ mid, t.length ≤ 100000) := Lib.hid (fun t ht => by
   rcases List.mem_append.1 ht with ht | ht
   ·simp at ht
    rcases ht with rfl | rfl <;> omega
   ·exact MS t ht)
  have QS : Hid (∀ t ∈ o.c.tags, t.1.length ≤ 24 ∧ t.2.length ≤ 200) := Lib.hid TS.2
  obtain ⟨n0, hn0⟩ : ∃ n0, n0 = 2 + mid.length := ⟨_, rfl⟩
  have n0l : n0 ≤ 4 := by omega
  have NP : Hid (([wordF o.c.kind, o.c.id] ++ mid).length = n0) := Lib.hid (by rw [hn0]; simp; omega)
  rw [← hn0] at OWN
  generalize [wordF o.c.kind, o.c.id] ++ mid = P0 at *
  have I0 : Hid (wc.ownsRow u1.heap.size 9 1 u4 (n0 + 0) (strsC (P0 ++ (o.c.tags.take 0).map fun t => tagW t.1 t.2))) := Lib.hid (by rw [List.take_zero, List.map_nil, List.append_nil]; exact OWN.out)
  have HO := OCH.out
  clear MO ML MS hn0 OWN FE FIT TS y0 y1 y2 y3 y4 k1u OZ OW3 RR1 WL IL
  go_wp2_with fail
  go_loopw [4, 7] (fun s4 s7 wr => ∃ k : Nat, k ≤ nt ∧ s7 = .int .i64 (k : Int) ∧ Hid (wr.ownsRow u1.heap.size 9 1 s4 (n0 + k) (strsC (P0 ++ (o.c.tags.take k).map fun t => tagW t.1 t.2))) ∧ Hid (OldB u1 wr)) (fun _ i _ => nt - (intOf i).toNat)
  case atStart => exact ⟨0, Nat.zero_le _, rfl, I0, OCH⟩
  case round =>
   clear I0 OCH HO
   obtain ⟨k, hk, rfl, OW, OH⟩ := hrel
   have OR := OH.out
   have y5r := y5 wr OR
   by_cases hlt : k < nt
   ·have hkl : k < o.c.tags.length := by rw [← NT.out]; exact hlt
    have d1 : (k : Int) < (nt : Int) := by omega
    have d2 : (0 : Int) ≤ (k : Int) := by omega
    obtain ⟨b, off, rfl, hb, p0, p1⟩ := tags_at RT1.out hkl
    have a0 : ∀ u, OldB u1 u → u.cell? ⟨b, off + k * 2, none⟩ = some (.string (mkB o.c.tags[k].1)) := fun u hu => (World.cell?_of_block (w := u1) (hu.block b hb)).trans p0
    have a1 : ∀ u, OldB u1 u → u.cell? ⟨b, off + k * 2 + 1, none⟩ = some (.string (mkB o.c.tags[k].2)) := fun u hu => (World.cell?_of_block (w := u1) (hu.block b hb)).trans p1
    have TK : Hid (strsC (P0 ++ (o.c.tags.take (k + 1)).map fun t => tagW t.1 t.2) = strsC (P0 ++ (o.c.tags.take k).map fun t => tagW t.1 t.2) ++ [.string (mkB o.c.tags[k].1 ++ (⟨#[61]⟩ : ByteArray) ++ mkB (quoteF o.c.tags[k].2))]) := Lib.hid (by
     rw [List.take_succ_eq_append_getElem hkl, List.map_append, ← List.append_assoc, strsC_app]
     refine congrArg (strsC (P0 ++ (o.c.tags.take k).map fun t => tagW t.1 t.2) ++ ·) ?_
     show [Value.string (mkB (o.c.tags[k].1 ++ [61] ++ quoteF o.c.tags[k].2))] = _
     rw [← mkB_app, ← mkB_app]
     first | done | rfl)
    have ZT := QS.out _ (List.getElem_mem hkl)
    generalize strsC (P0 ++ (o.c.tags.take k).map fun t => tagW t.1 t.2) = G at *
    generalize o.c.tags[k].1 = tk at *
    generalize o.c.tags[k].2 = tv at *
    have QT := Lib.hid (fun u => rquote_any tv u (by omega))
    have lq := escs_len tv
    have lq2 : (quoteF tv).length ≤ 402 := by unfold quoteF; rw [List.length_cons, List.length_append, List.length_singleton]; omega
    have mq := mkB_len (quoteF tv)
    have mk1 := mkB_len tk
    have zq : (mkB (quoteF tv)).size ≤ 402 := by omega
    have zk : (mkB tk).size ≤ 24 := by omega
    clear p0 p1 lq lq2 mq mk1 ZT
    generalize mkB (quoteF tv) = qv at *
    have f1 : ¬ 9223372036854775807 < (mkB tk).size + 1 := by omega
    have f2 : ¬ 9223372036854775807 < (mkB tk).size + 1 + qv.size := by omega
    go_upto_region 17 with fail
    (refine wp_region_noPanic ?_; refine wp_region_held_drew (S := (OldB u1)) (by kernel_rfl) ?_ (fun hHeld => ?_); exact Below.drew OR)
    have OW := Lib.hid (show wr.drew.ownsRow u1.heap.size 9 1 u4 (n0 + k) G from OW.out)
    generalize wr.drew = ud at *
    (refine tkW 0 ?_; try simp only [gmS])
    (refine tkW 1 ?_; try simp only [gmS])
    (refine tkW 2 ?_; try simp only [gmS])
    (refine tkW 3 ?_; try simp only [gmS])
    (refine tkW 4 ?_; try simp only [gmS])
    (refine tkW 5 ?_; try simp only [gmS])
    (refine tkW 6 ?_; try simp only [gmS])
    (refine tkW 7 ?_; try simp only [gmS])
    (refine tkW 8 ?_; try simp only [gmS])
    (refine tkW 9 ?_; try simp only [gmS])
    (refine tkW 10 ?_; try simp only [gmS])
    (refine tkW 11 ?_; try simp only [gmS])
    (refine tkW 12 ?_; try simp only [gmS])
    (refine tkW 13 ?_; try simp only [gmS])
    refine rdR 14 (fun K hK => ?_)
    go_simp
    (with_reducible refine (QT.out _).mono ?_)
    rintro e u3 ⟨rfl, rfl⟩
    (refine hK.out _ _ hHeld (fun hHeld2 => ?_); clear hK K hHeld; have hHeld := hHeld2; clear hHeld2; try simp only [gmS])
    (refine tkW 15 ?_; try simp only [gmS])
    refine rdR 16 (fun K hK => ?_)
    go_simp
    have OW := Lib.hid (own_below OW.out ((Below.refl _ _).alloc (Nat.le_refl _) (.cells #[.string (mkB tk ++ (⟨#[61]⟩ : ByteArray) ++ qv)] 9)) (Nat.le_refl _))
    have LR := Lib.hid (one_rdv hHeld (.string (mkB tk ++ (⟨#[61]⟩ : ByteArray) ++ qv)))
    (refine hK.out _ _ (OldB.alloc hHeld _) (fun hHeld2 => ?_); clear hK K hHeld; have hHeld := hHeld2; clear hHeld2; try simp only [gmS])
    refine rdR 17 (fun K hK => ?_)
    refine wp_appF (.tmp 69) (.tmp 85) 35 rfl Tryz.underlying35 info_strG rfl (by decide) u1.heap.size _ (n0 + k) G _ 1 1 [.string (mkB tk ++ (⟨#[61]⟩ : ByteArray) ++ qv)] (by intro y hy; simp at hy; rw [hy]; rfl) rfl rfl OW.out LR.out rfl (Below.size (show Below _ _ _ from hHeld)) (by omega) (by omega) ?_
    intro v3 w3 ho3 hg3 hq3
    have BG := Lib.hid (grown_below hg3 (fun k hk => own_base_le OW.out hk) (Below.size (show Below _ _ _ from hHeld)))
    (refine hK.out _ _ (OldB.then3 hHeld BG.out) (fun hHeld2 => ?_); clear hK K hHeld; have hHeld := hHeld2; clear hHeld2; try simp only [gmS])
    (refine tkW 18 ?_; try simp only [gmS])
    have OQ := Lib.hid hHeld
    (refine wpAnyH_done (by kernel_rfl) ?_ _; refine NoPanic.normal ?_)
    go_wp2_with fail
    exact ⟨⟨k + 1, by omega, by go_num, Lib.hid (by rw [TK.out]; exact ho3), OQ⟩, by simp [intOf]; omega⟩
   ·have d1 : ¬ (k : Int) < (nt : Int) := by omega
    have TT : Hid (o.c.tags.take k = o.c.tags) := Lib.hid (List.take_of_length_le (by rw [← NT.out]; omega))
    have kn : k = nt := by omega
    rw [TT.out, kn] at OW
    have PL : Hid (∀ t ∈ P0 ++ o.c.tags.map (fun t => tagW t.1 t.2), t.length ≤ 100000) := Lib.hid (fun t ht => by
     rcases List.mem_append.1 ht with ht | ht
     ·exact PS.out t ht
     ·obtain ⟨y, hy, rfl⟩ := List.mem_map.1 ht
      have := QS.out y hy
      have e := escs_len y.2
      unfold tagW quoteF
      rw [List.length_append, List.length_append, List.length_singleton, List.length_cons, List.length_append, List.length_singleton]
      omega)
    have PN : Hid ((P0 ++ o.c.tags.map (fun t => tagW t.1 t.2)).length = n0 + nt) := Lib.hid (by rw [List.length_append, NP.out, List.length_map, ← NT.out])
    generalize P0 ++ o.c.tags.map (fun t => tagW t.1 t.2) = P at *
    obtain ⟨A4, c4, rfl, hR4, -⟩ := own_slG OW.out
    have H4 := Lib.hid hR4
    obtain ⟨np, hnp⟩ : ∃ np, np = n0 + nt := ⟨_, rfl⟩
    rw [← hnp] at PN ⊢
    have npl : np ≤ 64 := by omega
    have BR := Lib.hid (B1.out.trans (Below.mono OR B1.out.size))
    have JL : Hid (∀ k, (joinL (P.take k) [32]).length ≤ 6500000) := Lib.hid (fun k => by
     refine Nat.le_trans (join_len [32] 100000 (P.take k) (fun t ht => PL.out t (List.mem_of_mem_take ht))) ?_
     have : (P.take k).length ≤ 64 := by rw [List.length_take, PN.out]; omega
     simp only [List.length_singleton]
     omega)
    clear OW TT kn hk hR4 hnp y5 hlt QS PS NP RT1
    go_wp2_with fail
    go_loopw [8, 9] (fun s8 s9 wq => ∃ j : Nat, j ≤ np ∧ s9 = .int .i64 (j : Int) ∧ s8 = .string (mkB (joinL (P.take j) [32])) ∧ Hid (wr = wq)) (fun _ i _ => np - (intOf i).toNat)
    case atStart => exact ⟨0, Nat.zero_le _, rfl, rfl, Lib.hid rfl⟩
    case round =>
     obtain ⟨j, hj, rfl, rfl, EW⟩ := hrel
     have EW2 := EW.out.symm
     subst EW2
     have J1 := JL.out j
     have mj := mkB_len (joinL (P.take j) [32])
     by_cases hlt : j < np
     ·have hkl : j < P.length := by rw [PN.out]; exact hlt
      have d1 : (j : Int) < (np : Int) := by omega
      have d2 : (0 : Int) ≤ (j : Int) := by omega
      obtain ⟨b, off, rfl, hb, c0⟩ := strs_at H4.out hkl
      have TK := Lib.hid (joinL_take [32] hkl)
      have hz := PL.out P[j] (List.getElem_mem hkl)
      have mz := mkB_len P[j]
      have JZ : Hid (j = 0 → joinL (P.take j) [32] = []) := Lib.hid (fun e => by subst e; rfl)
      generalize P[j] = s at *
      generalize joinL (P.take j) [32] = J at *
      have zj : (mkB J).size ≤ 6500000 := by omega
      have zs : (mkB s).size ≤ 100000 := by omega
      by_cases h0 : j = 0
      ·have d3 : ¬ (0 : Int) < (j : Int) := by omega
       have T2 : Hid (joinL (P.take (j + 1)) [32] = s) := Lib.hid (by rw [TK.out, if_pos h0]; rfl)
       have JE := JZ.out h0
       subst JE
       clear TK h0 JZ J1 mj mz hz
       go_wp2_with fail
       refine ⟨⟨j + 1, by omega, by go_num, ?_, Lib.hid (by first | rfl | trivial)⟩, by simp [intOf]; omega⟩
       rw [T2.out]
       first
        | rfl
        | (show Value.string (mkB [] ++ mkB s) = _; rw [mkB_app]; rfl)
      ·have d3 : (0 : Int) < (j : Int) := by omega
       have T2 : Hid (joinL (P.take (j + 1)) [32] = J ++ [32] ++ s) := Lib.hid (by rw [TK.out, if_neg h0])
       clear TK h0 JZ J1 mj mz hz
       go_wp2_with fail
       refine ⟨⟨j + 1, by omega, by go_num, ?_, Lib.hid (by first | rfl | trivial)⟩, by simp [intOf]; omega⟩
       rw [T2.out, ← mkB_app, ← mkB_app]; rfl
     ·have d1 : ¬ (j : Int) < (np : Int) := by omega
      have TE : Hid (P.take j = P) := Lib.hid (List.take_of_length_le (by rw [PN.out]; omega))
      rw [TE.out] at J1 mj ⊢
      generalize joinL P [32] = J at *
      by_cases h2 : 20000 < J.length
      ·have e3 : (20000 : Int) < (J.length : Int) := by omega
       have QF : Hid (R = ([], 2)) := Lib.hid (PF.out.trans (limT_long h2))
       clear h2 PF
       go_wp2_with fail
       go_ret2
       exact ⟨by rw [QF.out]; rfl, BR.out⟩
      ·have e3 : ¬ (20000 : Int) < (J.length : Int) := by omega
       have QF : Hid (R = (J, 0)) := Lib.hid (PF.out.trans (by unfold limT; rw [if_neg h2]))
       clear h2 PF
       go_wp2_with fail
       go_ret2
       exact ⟨by rw [QF.out]; rfl, BR.out⟩
end Go.Proofs.YtniklmikdkjgiaaGreatDoor
namespace Go.Proofs.YtniklmikdkjgiaaGreatDoor
open Go.RowKit
theorem joinL_app {b : List Tx} (hb : b ≠ []) : ∀ {a : List Tx}, a ≠ [] → joinL (a ++ b) [32] = joinL a [32] ++ [32] ++ joinL b [32]
 | [], h => absurd rfl h
 | x :: a, _ => by
  obtain ⟨y, r, rfl⟩ : ∃ y r, b = y :: r := by cases b with
   | nil => exact absurd rfl hb
   | cons y r => exact ⟨y, r, rfl⟩
  unfold joinL
  rw [List.cons_append, Lib.join_cons, Lib.join_cons, Lib.join_cons]
  simp [Lib.joinTail]
theorem body_join {o : At.Ob} (hk : At.kindB o.kind = true) : objBody o = joinL ([wordF o.kind, o.id] ++ midF o) [32] := by
 have hw := wordF_nn hk
 have h1 : putF (wordF o.kind) o.id = wordF o.kind ++ [32] ++ o.id := putF_ne hw
 have n1 : wordF o.kind ++ [32] ++ o.id ≠ [] := by simp
 unfold objBody midF
 by_cases h : o.kind = 1
 ·rw [if_pos h, if_pos h, h1, putF_ne n1, putF_ne (by simp)]
  simp [joinL, Lib.join]
 ·rw [if_neg h, if_neg h, h1, putF_ne n1]
  simp [joinL, Lib.join]
theorem r11T_eq (o : At.Ob) : r11T o = objTextF o := by
 unfold r11T objTextF
 cases hv : At.validO o
 ·rfl
 ·have F := validO_fit hv
  rw [if_pos rfl, if_pos rfl]
  by_cases ht : 0 < o.tags.length
  ·rw [if_pos ht]
   have hne : (o.tags.map fun t => tagW t.1 t.2) ≠ [] := by
    intro e
    have := congrArg List.length e
    rw [List.length_map] at this
    simp at this
    rw [this] at ht
    simp at ht
   have hj : joinL ([wordF o.kind, o.id] ++ midF o ++ o.tags.map fun t => tagW t.1 t.2) [32] = objBody o ++ [32] ++ joinL (wordsL o.tags) [32] := by
    rw [joinL_app hne (by simp), ← body_join F.kind]; rfl
   rw [hj]
   have hb : objBody o ≠ [] := by
    rw [body_join F.kind]
    intro e
    have hm := join_mem (L := [wordF o.kind, o.id] ++ midF o) (x := wordF o.kind) (by simp)
    rw [e] at hm
    exact wordF_nn F.kind (List.eq_nil_of_length_eq_zero (Nat.le_zero.1 hm))
   unfold tagTextF
   rw [if_pos F.tags]
   by_cases hl : 20000 < (joinL (wordsL o.tags) [32]).length
   ·rw [if_pos hl, if_neg (by decide), limT_long (by rw [List.length_append]; omega)]
   ·rw [if_neg hl, if_pos rfl, putF_ne hb]
  ·rw [if_neg ht]
   have e : o.tags = [] := List.eq_nil_of_length_eq_zero (by omega)
   rw [e, List.map_nil, List.append_nil, body_join F.kind]
end Go.Proofs.YtniklmikdkjgiaaGreatDoor
namespace Go.Proofs.YtniklmikdkjgiaaGreatDoor
open Go.RowKit
theorem wpList_appNN {P : Program} {ops : Array Oper} {rest : List Oper} {o : Oper} {a : Act} {Q : Exit → Act → World → Prop} {w0 : World} (hgd : o.guard = none) (s x : Operand) (t : TypeId)
  (ho : o.op = .call { callee := .builtin .append, args := #[s, x], argTypes := #[t, t] }) {e : TypeId} {z : Value} {size bytes : Nat}
  (ht : P.underlying t = some (.slice e)) (hinfo : (P.info? e).map (fun i => (i.zero, i.size, i.bytes)) = some (some z, size, bytes)) (hzs : z.cells.size = size) (hsz : 0 < size)
  (base : Nat) (v : Value) (n : Nat) (xs : List Value) (cs : Array Value) (m N : Nat) (hN : n + m = N) (hm : 0 < m) (hcs : cs.size = m * size) (h1 : ∀ u ∈ cs.toList, u.oneCell' = true)
  (hs : a.eval s = v) {g : Nat} (hx : a.eval x = .slice (some ⟨g, 0, none⟩) m m) (hg : w0.heap.size = g) (hown : w0.ownsRow base e size v n xs) (hb : base ≤ w0.heap.size)
  (hbytes : (n + m) * bytes ≤ 140737488355328) (hmax : n + m ≤ 9223372036854775807)
  (h : ∀ g' c' w', w'.ownsRow base e size (.slice (some ⟨g', 0, none⟩) N c') N (xs ++ cs.toList) → Below base w0 w' → wpList P ops Q rest (a.put o.dst (.slice (some ⟨g', 0, none⟩) N c')) w') :
  wpList P ops Q (o :: rest) a (w0.alloc (.cells cs e)) := by
 subst hN
 exact wpList_appNG hgd s x t ho ht hinfo hzs hsz base v n xs cs m hm hcs h1 hs hx hg hown hb hbytes hmax (fun g' c' w' a1 _ _ a4 => h g' c' w' a1 a4)
theorem wpList_appSN {P : Program} {ops : Array Oper} {rest : List Oper} {o : Oper} {a : Act} {Q : Exit → Act → World → Prop} {w : World} (hgd : o.guard = none) (s x : Operand) (t : TypeId)
  (ho : o.op = .call { callee := .builtin .append, args := #[s, x], argTypes := #[t, t] }) {e : TypeId} {z : Value} {size bytes : Nat}
  (ht : P.underlying t = some (.slice e)) (hinfo : (P.info? e).map (fun i => (i.zero, i.size, i.bytes)) = some (some z, size, bytes)) (hzs : z.cells.size = size) (hsz : 0 < size)
  (base : Nat) (v : Value) (n : Nat) (xs : List Value) (A : Option Addr) (m c N : Nat) (hN : n + m = N) (news : List Value) (h1 : ∀ u ∈ news, u.oneCell' = true)
  (hs : a.eval s = v) (hx : a.eval x = .slice A m c) (hown : w.ownsRow base e size v n xs) (hr : Rd w A news) (hm : news.length = m * size) (hb : base ≤ w.heap.size)
  (hbytes : (n + m) * bytes ≤ 140737488355328) (hmax : n + m ≤ 9223372036854775807)
  (h : ∀ A' c' w', w'.ownsRow base e size (.slice A' N c') N (xs ++ news) → Below base w w' → wpList P ops Q rest (a.put o.dst (.slice A' N c')) w') :
  wpList P ops Q (o :: rest) a w := by
 subst hN
 refine wpList_appRS hgd s x t ho ht hinfo hzs hsz base v n xs A m c news h1 hs hx hown hr hm hb hbytes hmax (fun v' w' a1 a2 _ => ?_)
 obtain ⟨A', c', rfl, -, -⟩ := own_slG a1
 exact h A' c' w' a1 a2
end Go.Proofs.YtniklmikdkjgiaaGreatDoor
