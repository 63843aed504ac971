/- WALKS: points that are moved, by the reference. -/
import Derived.Test.YtdiknijbjmhacaaG1
import Derived.Test.YtdiknijbjmhacaaD4
import Derived.Test.YtdiknijbjmhacaaH0
set_option linter.unusedSimpArgs false
set_option linter.unusedVariables false
namespace Go.Proofs.Ytdiknijbjmhacaa
open Go.RowKit
attribute [local go_sem ↓] Go.wp_at_zero Go.wp_at_succ

def allNear (l : List Cl.Pt) : Bool := l.all fun p => Cl.nearB p.1 p.2
def mvPre (l : List Cl.Pt) (m : Cl.Pt) : Bool := allNear l && (l.isEmpty || Cl.nearB m.1 m.2)
def mvL (l : List Cl.Pt) (m : Cl.Pt) : List Cl.Pt := if mvPre l m then l.map (Cl.mvP m) else []
def mvOk (l : List Cl.Pt) (m : Cl.Pt) : Bool := mvPre l m && allNear (l.map (Cl.mvP m))
def MovedPost (w : World) (l : List Cl.Pt) (m : Cl.Pt) (e : Ending) (w' : World) : Prop :=
  ∃ A c, e = .returned (.tuple #[.slice A (mvL l m).length c, .bool (mvOk l m)]) ∧ Rp w' A (mvL l m) ∧ ((mvL l m).length ≤ c ∧ c ≤ maxLen) ∧ Below w.heap.size w w'
theorem mv_no1 {l : List Cl.Pt} {m : Cl.Pt} {k : Nat} (hk : k < l.length) (h : Cl.nearB l[k].1 l[k].2 = false) : mvL l m = [] ∧ mvOk l m = false := by
  have : allNear l = false := not_near hk h
  have hp : mvPre l m = false := by unfold mvPre; rw [this]; rfl
  unfold mvL mvOk; rw [hp]; exact ⟨rfl, rfl⟩
theorem mv_no2 {l : List Cl.Pt} {m : Cl.Pt} {k : Nat} (hk : k < l.length) (h : Cl.nearB m.1 m.2 = false) : mvL l m = [] ∧ mvOk l m = false := by
  have he : l.isEmpty = false := by cases l with
    | nil => simp at hk
    | cons => rfl
  have hp : mvPre l m = false := by unfold mvPre; rw [h, he]; simp
  unfold mvL mvOk; rw [hp]; exact ⟨rfl, rfl⟩
theorem mv_yes {l : List Cl.Pt} {m : Cl.Pt} (h : ∀ j (h : j < l.length), Cl.nearB l[j].1 l[j].2 = true) (h2 : 0 < l.length → Cl.nearB m.1 m.2 = true) : mvL l m = l.map (Cl.mvP m) ∧ mvOk l m = allNear (l.map (Cl.mvP m)) := by
  have : allNear l = true := all_near h
  have hp : mvPre l m = true := by
    unfold mvPre; rw [this, Bool.true_and]
    cases l with
    | nil => rfl
    | cons => rw [h2 (by simp)]; rfl
  unfold mvL mvOk; rw [hp]; exact ⟨rfl, rfl⟩
set_option maxHeartbeats 4000000 in
theorem moved_any (A : Option Addr) (n c : Nat) (l : List Cl.Pt) (mx my : Int) (w : World) (hn : n = l.length) (hl : n ≤ 8796093022208) (h : Rp w A l) :
    Calls Try.prog 18 #[.slice A n c, .agg #[.int .i64 mx, .int .i64 my]] w (MovedPost w l (mx, my)) := by
  obtain ⟨W1, hW⟩ : ∃ W1, W1 = w.alloc (.cells #[.int .i64 mx, .int .i64 my] 24) := ⟨_, rfl⟩
  have BB : Hid (Below w.heap.size w W1) := Lib.hid (by rw [hW]; exact (Below.refl _ _).alloc (Nat.le_refl _) _)
  have MB : Hid (W1.heap[w.heap.size]? = some (.cells #[.int .i64 mx, .int .i64 my] 24 (0, 0))) := Lib.hid (by rw [hW]; exact alloc_new' _ _ _ rfl)
  have HZ : Hid (W1.heap.size = w.heap.size + 1) := Lib.hid (by rw [hW]; simp)
  have H := Lib.hid (rp_below h BB.out); have HN := Lib.hid hn; clear h hn
  go_enter Try.func18, Try.ntmps18
  go_wp2_with fail
  rw [← hW]
  clear hW
  go_loopw [6, 7] (fun v i wr => ∃ k : Nat, k ≤ n ∧ i = .int .i64 k ∧ Hid (∀ j (_ : j < k) (h : j < l.length), Cl.nearB l[j].1 l[j].2 = true) ∧ Hid (0 < k → Cl.nearB mx my = true) ∧ Hid (wr.ownsRow W1.heap.size 24 2 v k (((l.take k).map (Cl.mvP (mx, my))).flatMap ptCells)) ∧ Hid (OldOf W1 wr)) (fun _ i _ => n - (intOf i).toNat)
  case atStart => exact ⟨0, Nat.zero_le _, rfl, Lib.hid (by intro j h; omega), Lib.hid (by omega), Lib.hid (World.ownsRow_nil _ _ _ _), Lib.hid (OldOf.refl _)⟩
  case round =>
    obtain ⟨k, hk, rfl, hno, hmn, hown, hbel⟩ := hrel
    have hbw : Hid (Below w.heap.size w wr) := Lib.hid (BB.out.trans (Below.mono hbel.out BB.out.size))
    by_cases hlt : k < n
    · have hll : k < l.length := by have := HN.out; omega
      have HB := Lib.hid hbel.out
      obtain ⟨b, off, rfl, hb, hc1, hc2⟩ := (rp_below H.out hbel.out).at_ hll
      obtain ⟨m0, m1⟩ := cell_two ((Below.block hbel.out _ (lt_of_block MB.out)).trans MB.out)
      obtain ⟨x, hx⟩ : ∃ x, x = l[k].1 := ⟨_, rfl⟩
      obtain ⟨y, hy⟩ : ∃ y, y = l[k].2 := ⟨_, rfl⟩
      rw [← hx] at hc1
      rw [← hy] at hc2
      have HX := Lib.hid hx; have HY := Lib.hid hy; clear hx hy
      rcases hnr : Cl.nearB x y with _ | _
      · have HF : Hid (mvL l (mx, my) = [] ∧ mvOk l (mx, my) = false) := Lib.hid (mv_no1 hll (by rw [← HX.out, ← HY.out]; exact hnr))
        have IS : Hid (∀ u, Calls Try.prog 41 #[.agg #[.int .i64 x, .int .i64 y]] u fun e w' => e = .returned (.bool false) ∧ Below u.heap.size u w') := Lib.hid (fun u => by rw [← hnr]; exact is_any x y u)
        clear hnr
        go_wp2_with fail
        refine (IS.out _).mono ?_
        rintro e w1 ⟨rfl, hb1⟩
        have HB1 := Lib.hid hb1; clear hb1 m0 m1
        go_wp2_with fail
        go_ret2
        exact ⟨none, 0, by rw [HF.out.1, HF.out.2]; rfl, by rw [HF.out.1]; exact Rd.nil_ _ _, by rw [HF.out.1]; simp [maxLen], hbw.out.trans (HB1.out.mono hbw.out.size)⟩
      · have IS : Hid (∀ u, Calls Try.prog 41 #[.agg #[.int .i64 x, .int .i64 y]] u fun e w' => e = .returned (.bool true) ∧ Below u.heap.size u w') := Lib.hid (fun u => by rw [← hnr]; exact is_any x y u)
        have HNR := Lib.hid hnr; clear hnr
        rcases hmr : Cl.nearB mx my with _ | _
        · have HF : Hid (mvL l (mx, my) = [] ∧ mvOk l (mx, my) = false) := Lib.hid (mv_no2 hll hmr)
          have IS2 : Hid (∀ u, Calls Try.prog 41 #[.agg #[.int .i64 mx, .int .i64 my]] u fun e w' => e = .returned (.bool false) ∧ Below u.heap.size u w') := Lib.hid (fun u => by rw [← hmr]; exact is_any mx my u)
          clear hmr
          go_wp2_with fail
          refine (IS.out _).mono ?_
          rintro e w1 ⟨rfl, hb1⟩
          obtain ⟨m2, m3⟩ := cell_two ((Below.block hb1 _ (lt_of_block ((Below.block hbel.out _ (lt_of_block MB.out)).trans MB.out))).trans ((Below.block hbel.out _ (lt_of_block MB.out)).trans MB.out))
          have HB1 := Lib.hid hb1; clear hb1 m0 m1
          go_wp2_with fail
          refine (IS2.out _).mono ?_
          rintro e w2 ⟨rfl, hb2⟩
          have HB2 := Lib.hid hb2; clear hb2 m2 m3
          go_wp2_with fail
          go_ret2
          exact ⟨none, 0, by rw [HF.out.1, HF.out.2]; rfl, by rw [HF.out.1]; exact Rd.nil_ _ _, by rw [HF.out.1]; simp [maxLen], (hbw.out.trans (HB1.out.mono hbw.out.size)).trans (HB2.out.mono (hbw.out.trans (HB1.out.mono hbw.out.size)).size)⟩
        · have IS2 : Hid (∀ u, Calls Try.prog 41 #[.agg #[.int .i64 mx, .int .i64 my]] u fun e w' => e = .returned (.bool true) ∧ Below u.heap.size u w') := Lib.hid (fun u => by rw [← hmr]; exact is_any mx my u)
          have HMR := Lib.hid hmr; clear hmr
          go_wp2_with fail
          refine (IS.out _).mono ?_
          rintro e w1 ⟨rfl, hb1⟩
          obtain ⟨m2, m3⟩ := cell_two ((Below.block hb1 _ (lt_of_block ((Below.block hbel.out _ (lt_of_block MB.out)).trans MB.out))).trans ((Below.block hbel.out _ (lt_of_block MB.out)).trans MB.out))
          have HB1 := Lib.hid hb1; clear hb1 m0 m1
          go_wp2_with fail
          refine (IS2.out _).mono ?_
          rintro e w2 ⟨rfl, hb2⟩
          have HO2 : Hid (wr.heap.size ≤ w2.heap.size ∧ Below wr.heap.size wr w2) := Lib.hid ⟨Nat.le_trans HB1.out.size hb2.size, HB1.out.trans (hb2.mono HB1.out.size)⟩
          clear hb2 m2 m3 HB1 hc1 hc2 hb
          have OW2 := Lib.hid (own_keep hown.out fun k' cs _ hc => HO2.out.2.block k' (lt_of_block hc))
          have o0 : OldOf W1 w2.drew := Below.drew (Below.trans hbel.out (HO2.out.2.mono (Below.size hbel.out)))
          obtain ⟨b', off', e', hb', c0, c1⟩ := H.out.at_ hll
          cases e'
          rw [← HX.out] at c0; rw [← HY.out] at c1
          obtain ⟨m0, m1⟩ := cell_two MB.out
          have C0 : ∀ w', OldOf W1 w' → w'.cell? ⟨b, off + k * 2, none⟩ = some (.int .i64 x) := fun w' h => h.c (by exact c0)
          have C1 : ∀ w', OldOf W1 w' → w'.cell? ⟨b, off + k * 2 + 1, none⟩ = some (.int .i64 y) := fun w' h => h.c (by exact c1)
          have M0 : ∀ w', OldOf W1 w' → w'.cell? ⟨w.heap.size, 0, none⟩ = some (.int .i64 mx) := fun w' h => h.c (by exact m0)
          have M1 : ∀ w', OldOf W1 w' → w'.cell? ⟨w.heap.size, 1, none⟩ = some (.int .i64 my) := fun w' h => h.c (by exact m1)
          have NX1 : Hid (∀ v1 w1, World.ownsRow w1 W1.heap.size 24 2 v1 (k + 1) (((l.take k).map (Cl.mvP (mx, my))).flatMap ptCells ++ [.int .i64 (x + mx), .int .i64 (y + my)]) → w1.ownsRow W1.heap.size 24 2 v1 (k + 1) (((l.take (k + 1)).map (Cl.mvP (mx, my))).flatMap ptCells)) := Lib.hid (fun v1 w1 h => by
            rw [List.take_succ_eq_append_getElem hll, List.map_append, List.flatMap_append]
            simpa [ptCells, Cl.mvP, HX.out, HY.out] using h)
          have HS2 : W1.heap.size ≤ w2.heap.size := by have hq := (show Below W1.heap.size W1 w2.drew from o0).size; exact hq
          obtain ⟨⟨bx1, bx2⟩, by1, by2⟩ := Cl.near_iff.1 HNR.out
          obtain ⟨⟨bm1, bm2⟩, bn1, bn2⟩ := Cl.near_iff.1 HMR.out
          have j1 : IntKind.i64.wrap (x + mx) = x + mx := IntWalk.i64_in _ (by omega)
          have j2 : IntKind.i64.wrap (y + my) = y + my := IntWalk.i64_in _ (by omega)
          have i5 : (k : Int) < (n : Int) := by omega
          have i6 : (0 : Int) ≤ (k : Int) := by omega
          clear c0 c1 m0 m1 bx1 bx2 by1 by2 bm1 bm2 bn1 bn2
          go_wp2_with fail
          go_region_held3 (fun w' => OldOf W1 w') (first | assumption | exact OldOf.alloc (by assumption) _) ((refine step_appB rfl (.tmp 25) (.tmp 43) 22 rfl Try.underlying22 info_pt rfl (by decide) W1.heap.size u6 k 1 (((l.take k).map (Cl.mvP (mx, my))).flatMap ptCells) w2.drew #[.int .i64 (x + mx), .int .i64 (y + my)] rfl (by simp [Value.oneCell']) rfl rfl rfl (by exact OW2.out) (by exact HS2) (by omega) (by omega) (by decide) ?_; intro A1 c1 w3 hown1 hb3 hg1; have o1 : OldOf W1 w3 := Below.trans o0 hb3))
          have O1 := Lib.hid o1
          clear C0 C1 M0 M1 j1 j2
          go_wp2_with fail
          refine ⟨⟨k + 1, hlt, by go_num, Lib.hid (fun j hj h => ?_), Lib.hid (by intro _; first | trivial | exact HMR.out), Lib.hid (NX1.out _ _ hown1), O1⟩, by simp [intOf]; omega⟩
          rcases Nat.lt_succ_iff_lt_or_eq.1 hj with h1 | rfl
          · exact hno.out j h1 h
          · rw [← HX.out, ← HY.out]; exact HNR.out
    · have hkn : k = n := by omega
      subst hkn
      have HY := Lib.hid (mv_yes (l := l) (m := (mx, my)) (fun j h => hno.out j (by have := HN.out; omega) h) (fun h => hmn.out (by have := HN.out; omega)))
      obtain ⟨A9, c9, rfl, hq1, hq2⟩ := own_form hown.out
      have OW : Hid (wr.ownsRow W1.heap.size 24 2 (.slice A9 k c9) k ((l.map (Cl.mvP (mx, my))).flatMap ptCells)) := Lib.hid (by have := hown.out; rwa [show l.take k = l by rw [HN.out, List.take_length]] at this)
      have LM : Hid ((l.map (Cl.mvP (mx, my))).length = k) := Lib.hid (by rw [List.length_map, HN.out])
      have NR : Hid (Calls Try.prog 31 #[.slice A9 k c9] wr fun e w' => e = .returned (.bool (allNear (l.map (Cl.mvP (mx, my))))) ∧ Below wr.heap.size wr w') := Lib.hid (rnear_any A9 k c9 _ wr LM.out.symm (by omega) (rp_own OW.out))
      clear hown hno hmn
      have HC := Lib.hid (And.intro hq1 hq2); clear hq1 hq2
      go_wp2_with fail
      refine NR.out.mono ?_
      rintro e w3 ⟨rfl, hb3⟩
      have HB3 := Lib.hid hb3; clear hb3
      go_wp2_with fail
      go_ret2
      exact ⟨A9, c9, by rw [HY.out.1, HY.out.2, LM.out]; rfl, by rw [HY.out.1]; exact (rp_own OW.out).below HB3.out, by rw [HY.out.1, LM.out]; exact HC.out, hbw.out.trans (HB3.out.mono hbw.out.size)⟩
end Go.Proofs.Ytdiknijbjmhacaa
