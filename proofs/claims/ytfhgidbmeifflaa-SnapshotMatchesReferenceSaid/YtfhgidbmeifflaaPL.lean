/- WALK: want (the reference's operation). -/
import Derived.Test.YtfhgidbmeifflaaPK
import Derived.Test.YtfhgidbmeifflaaPI
set_option linter.unusedSimpArgs false
set_option linter.unusedVariables false
namespace Go.Proofs.Ytfhgidbmeifflaa
open Go.RowKit Go.Maps Go.ChangeMaps Go.MapKept Go.WideShapes Go.WideMaps

def WantPost (q : Nat) (G : Nat → Prop) (r : RSh × Int × Nat) (w : World) (e : Ending) (w' : World) : Prop :=
  e = .returned (.tuple #[.int .i64 r.2.1, .int .i64 (r.2.2 : Int)]) ∧ RefPost w q G r.1 w'
theorem RefPost.from {w u w' : World} {q : Nat} {G : Nat → Prop} {t : RSh} (h : RefPost u q G t w') (hb : Below w.heap.size w u) : RefPost w q G t w' := by
  obtain ⟨G', h1, h2, h3⟩ := h
  exact ⟨G', h1, fun g hg => (h2 g hg).imp id (fun e => Nat.le_trans hb.size e), (But.of_below hb).trans h3⟩
theorem own_one (w : World) (B : Nat) (hB : B ≤ w.heap.size) (u : Value) (t : TypeId) : (w.alloc (.cells #[u] t)).ownsRow B t 1 (.slice (some ⟨w.heap.size, 0, none⟩) 1 1) 1 [u] :=
  ⟨rfl, .inr ⟨w.heap.size, 1, #[u], rfl, hB, heap_alloc_new w _, Nat.le_refl _, by simp [maxLen], by simp, by simp⟩⟩
theorem RArg.of_own {w : World} {G : Nat → Prop} {A : Option Addr} {n c B : Nat} {e : TypeId} {l : List Tx} (h : w.ownsRow B e 1 (.slice A n c) n (kv l)) (hn : n = l.length) (hG : ∀ g, G g → g < B) (hl : l.length ≤ 100) (hs : ∀ t ∈ l, t.length ≤ 1000000) : RArg w G A n l :=
  ⟨hn, own_rd h, fun b off e hg => by
    have := (h.lt b (by rw [e]; rfl)).1
    have := hG b hg
    omega, hl, hs⟩
theorem RArg.nil (w : World) (G : Nat → Prop) : RArg w G none 0 [] := ⟨rfl, Rd.nil_ _ _, fun b off e => (by cases e), by simp, fun t h => by cases h⟩
set_option maxHeartbeats 8000000 in
set_option maxRecDepth 100000 in
theorem want_any (q : Nat) (G : Nat → Prop) (t : RSh) (o : OpV) (k : Nat) (w : World) (hI : RBk t k) (hk : k ≤ 1000) (ho : okOp o = true) (hkd : o.kind ≤ 255) (hn : o.n ≤ 255) (h : RefAt w q G t) :
    Calls Try.prog 14 #[.pointer (some ⟨q, 0, none⟩), opAgg o] w (WantPost q G (wantF t o) w) := by
  have RBH := Lib.hid (hI.rb hk)
  have hok : o.key.length ≤ 300 ∧ o.value.length ≤ 300 ∧ o.other.length ≤ 300 ∧ o.second.length ≤ 300 := by
    unfold okOp at ho
    simp at ho
    omega
  have FL : Hid (∀ g, G g → g < w.heap.size) := Lib.hid (by obtain ⟨vn, vr, vo, vk, vs, hh⟩ := h; exact hh.lt)
  have DD : Hid (wantF t o = if o.kind % 6 = 0 then ((rwriteF t o.put []).1, ((rwriteF t o.put []).2.1 : Int), (rwriteF t o.put []).2.2)
    else if o.kind % 6 = 1 then ((rwriteF t o.put [o.other]).1, ((rwriteF t o.put [o.other]).2.1 : Int), (rwriteF t o.put [o.other]).2.2)
    else if o.kind % 6 = 2 then ((ropenF t).1, ((ropenF t).2.1 : Int), (ropenF t).2.2)
    else if o.kind % 6 = 3 then ((rcloseF t o.n).1, 0, (rcloseF t o.n).2)
    else if o.kind % 6 = 4 then (rcollectF t, (t.kept.length : Int) - ((rcollectF t).kept.length : Int), 0)
    else ((rforgetF t o.key).1, 0, (rforgetF t o.key).2)) := Lib.hid rfl
  have PT : Hid (o.put = if o.kind % 6 = 0 ∧ o.other ≠ [] ∧ o.other ≠ o.key then [(o.key, o.value), (o.other, o.second)] else [(o.key, o.value)]) := Lib.hid rfl
  generalize wantF t o = DF at *
  unfold opAgg
  obtain ⟨kd, key, value, other, second, nn⟩ := o
  dsimp only at *
  have ba : Below w.heap.size w (w.alloc (.cells #[.int .u8 (kd : Int), .string (mkB key), .string (mkB value), .string (mkB other), .string (mkB second), .int .u8 (nn : Int)] 33)) := (Below.refl _ _).alloc (Nat.le_refl _) _
  obtain ⟨wa, hwa⟩ : ∃ wa, wa = w.alloc (.cells #[.int .u8 (kd : Int), .string (mkB key), .string (mkB value), .string (mkB other), .string (mkB second), .int .u8 (nn : Int)] 33) := ⟨_, rfl⟩
  have hB0 : wa.heap[w.heap.size]? = some (.cells #[.int .u8 (kd : Int), .string (mkB key), .string (mkB value), .string (mkB other), .string (mkB second), .int .u8 (nn : Int)] 33 (0, 0)) := by rw [hwa]; exact heap_alloc_new w _
  rw [← hwa] at ba
  have sa : wa.heap.size = w.heap.size + 1 := by rw [hwa]; simp
  -- the two lists of one element
  obtain ⟨w1, hw1⟩ : ∃ w1, w1 = wa.alloc (.cells #[.string (mkB key)] 9) := ⟨_, rfl⟩
  have s1 : w1.heap.size = w.heap.size + 2 := by rw [hw1]; simp [sa]
  obtain ⟨w2, hw2⟩ : ∃ w2, w2 = w1.alloc (.cells #[.string (mkB value)] 9) := ⟨_, rfl⟩
  have s2 : w2.heap.size = w.heap.size + 3 := by rw [hw2]; simp [s1]
  have b2 : Below w.heap.size w w2 := by rw [hw2, hw1]; exact (ba.alloc (by omega) _).alloc (by simp; omega) _
  have K0 : w2.ownsRow w.heap.size 9 1 (.slice (some ⟨w.heap.size + 1, 0, none⟩) 1 1) 1 [.string (mkB key)] := by
    have := own_one wa w.heap.size (by omega) (.string (mkB key)) 9
    rw [sa, ← hw1] at this
    rw [hw2]; exact this.alloc _
  have V0 : w2.ownsRow w.heap.size 9 1 (.slice (some ⟨w.heap.size + 1 + 1, 0, none⟩) 1 1) 1 [.string (mkB value)] := by
    have := own_one w1 w.heap.size (by omega) (.string (mkB value)) 9
    rw [s1, ← hw2] at this
    exact this
  have hB2 : w2.heap[w.heap.size]? = some (.cells #[.int .u8 (kd : Int), .string (mkB key), .string (mkB value), .string (mkB other), .string (mkB second), .int .u8 (nn : Int)] 33 (0, 0)) := by
    rw [hw2, hw1]
    exact (alloc_old _ _ (by simp; omega)).trans ((alloc_old _ _ (by omega)).trans hB0)
  have c0 : w2.cell? ⟨w.heap.size, 0, none⟩ = some (.int .u8 (kd : Int)) := cell_of_row w2 _ 0 _ _ _ hB2
  have c1 : w2.cell? ⟨w.heap.size, 1, none⟩ = some (.string (mkB key)) := cell_of_row w2 _ 1 _ _ _ hB2
  have c3 : w2.cell? ⟨w.heap.size, 3, none⟩ = some (.string (mkB other)) := cell_of_row w2 _ 3 _ _ _ hB2
  have c4 : w2.cell? ⟨w.heap.size, 4, none⟩ = some (.string (mkB second)) := cell_of_row w2 _ 4 _ _ _ hB2
  have c5 : w2.cell? ⟨w.heap.size, 5, none⟩ = some (.int .u8 (nn : Int)) := cell_of_row w2 _ 5 _ _ _ hB2
  have R2 := Lib.hid (h.below b2)
  have BW := Lib.hid b2
  have KH := Lib.hid K0
  have VH := Lib.hid V0
  have HB := Lib.hid hB2
  have S2 := Lib.hid s2
  have E2 : Hid (w2 = ((w.alloc (.cells #[.int .u8 (kd : Int), .string (mkB key), .string (mkB value), .string (mkB other), .string (mkB second), .int .u8 (nn : Int)] 33)).alloc (.cells #[.string (mkB key)] 9)).alloc (.cells #[.string (mkB value)] 9)) := Lib.hid (by rw [hw2, hw1, hwa])
  have zz : w.heap.size < w2.heap.size := by omega
  have HW := Lib.hid h
  clear ho h hI b2 K0 V0 hB2 hB0 ba hw1 hw2 hwa sa s1 s2 wa w1
  have tO := mkB_tl other
  have tK := mkB_tl key
  have kq : (kd : Int) % 6 = ((kd % 6 : Nat) : Int) := by omega
  have kq6 : kd % 6 < 6 := Nat.mod_lt _ (by omega)
  generalize kd % 6 = m at *
  go_enter Try.func14, Try.ntmps14
  go_upto_region 3 with fail
  rw [← E2.out]
  clear E2
  by_cases q0 : m = 0
  · subst q0
    have b0 : ((kd : Int) % 6 == 0) = true := by rw [kq]; rfl
    rw [if_pos rfl] at DD
    by_cases x12 : other = [] ∨ other = key
    · rw [if_neg (fun h => x12.elim h.2.1 h.2.2)] at PT
      have WR := Lib.hid (rwrite_any q G t [(key, value)] [] (some ⟨w.heap.size + 1, 0, none⟩) 1 1 (some ⟨w.heap.size + 1 + 1, 0, none⟩) 1 1 none 0 0 w2 R2.out RBH.out
        (RArg.of_own (l := [key]) KH.out rfl FL.out (by simp) (by simp; omega)) (RArg.of_own (l := [value]) VH.out rfl FL.out (by simp) (by simp; omega)) (RArg.nil _ _))
      rw [PT.out] at DD
      clear PT kq KH VH R2 RBH HB FL S2
      generalize rwriteF t [(key, value)] [] = R at *
      by_cases x1 : other = []
      · have e1 : other.isEmpty = true := by rw [x1]; rfl
        clear x1 x12
        go_wp2_with fail
        refine WR.out.mono ?_
        rintro e w3 ⟨rfl, hp⟩
        have HP2 := Lib.hid (hp.from BW.out)
        clear hp
        go_wp2_with fail
        go_ret2
        exact ⟨by rw [DD.out]; rfl, by rw [DD.out]; exact HP2.out⟩
      · have e1 : other.isEmpty = false := by cases other with
          | nil => exact absurd rfl x1
          | cons a l => rfl
        have e2 : (other == key) = true := by rw [x12.resolve_left x1]; simp
        clear x1 x12
        go_wp2_with fail
        refine WR.out.mono ?_
        rintro e w3 ⟨rfl, hp⟩
        have HP2 := Lib.hid (hp.from BW.out)
        clear hp
        go_wp2_with fail
        go_ret2
        exact ⟨by rw [DD.out]; rfl, by rw [DD.out]; exact HP2.out⟩
    · have x1 : other ≠ [] := fun e => x12 (.inl e)
      have x2 : other ≠ key := fun e => x12 (.inr e)
      rw [if_pos ⟨rfl, x1, x2⟩] at PT
      have e1 : other.isEmpty = false := by cases other with
        | nil => exact absurd rfl x1
        | cons a l => rfl
      have e2 : (other == key) = false := by simpa using x2
      rw [PT.out] at DD
      clear PT kq x12 x1 x2
      go_wp2_with (at_builtin; first
        | (refine wpList_app1v rfl (.tmp 29) (.tmp 32) 41 rfl Try.underlying41 info_str rfl w.heap.size _ 1 [.string (mkB key)] (.string (mkB other)) rfl rfl rfl rfl KH.out (by omega) (by omega) (by omega) ?_; intro g5 k5 w5 o5 h5 l5 b5
           have KH5 := Lib.hid o5
           have VH5 := Lib.hid (own_far VH.out h5 (fun g hg e => by
             have e : some (w.heap.size + 1) = some g := e
             have hg : some (w.heap.size + 1 + 1) = some g := hg
             injection e with e; injection hg with hg; omega))
           have HB5 := Lib.hid ((h5.block w.heap.size zz (fun e => by have e : some w.heap.size = some (w.heap.size + 1) := e; injection e with e; omega)).trans HB.out)
           have BW5 := Lib.hid (BW.out.trans b5)
           have N5 : Hid (g5 ≠ w.heap.size + 1 + 1) := Lib.hid (fun e => by
             rcases l5 with l5 | l5
             · have l5 : some (w.heap.size + 1) = some g5 := l5
               injection l5 with l5; omega
             · have := S2.out; omega)
           have z5 : w.heap.size < w5.heap.size := Nat.lt_of_lt_of_le zz h5.size
           have c35 : w5.cell? ⟨w.heap.size, 3, none⟩ = some (.string (mkB other)) := cell_of_row w5 _ 3 _ _ _ HB5.out
           have c45 : w5.cell? ⟨w.heap.size, 4, none⟩ = some (.string (mkB second)) := cell_of_row w5 _ 4 _ _ _ HB5.out
           clear o5 h5 l5 b5)
        | (refine wpList_app1v rfl (.tmp 34) (.tmp 37) 41 rfl Try.underlying41 info_str rfl w.heap.size _ 1 [.string (mkB value)] (.string (mkB second)) rfl rfl rfl rfl VH5.out (by omega) (by omega) (by omega) ?_; intro g6 k6 w6 o6 h6 l6 b6
           have VH6 := Lib.hid o6
           have KH6 := Lib.hid (own_far KH5.out h6 (fun g hg e => by
             have e : some (w.heap.size + 1 + 1) = some g := e
             have hg : some g5 = some g := hg
             injection e with e; injection hg with hg; exact N5.out (hg.trans e.symm)))
           have BW6 := Lib.hid (BW5.out.trans b6)
           have R6 := Lib.hid (HW.out.below BW6.out)
           clear o6 h6 l6 b6))
      have WR := Lib.hid (rwrite_any q G t [(key, value), (other, second)] [] (some ⟨g5, 0, none⟩) 2 k5 (some ⟨g6, 0, none⟩) 2 k6 none 0 0 w6 R6.out RBH.out
        (RArg.of_own (l := [key, other]) KH6.out rfl FL.out (by simp) (by simp; omega)) (RArg.of_own (l := [value, second]) VH6.out rfl FL.out (by simp) (by simp; omega)) (RArg.nil _ _))
      clear KH VH KH5 VH5 KH6 VH6 HB HB5 BW BW5 R2 R6 FL S2 RBH N5
      generalize rwriteF t [(key, value), (other, second)] [] = R at *
      go_wp2_with fail
      refine WR.out.mono ?_
      rintro e w7 ⟨rfl, hp⟩
      have HP2 := Lib.hid (hp.from BW6.out)
      clear hp
      go_wp2_with fail
      go_ret2
      exact ⟨by rw [DD.out]; rfl, by rw [DD.out]; exact HP2.out⟩
  · have b0 : ((kd : Int) % 6 == 0) = false := by rw [kq]; simp; omega
    rw [if_neg q0] at DD
    rw [if_neg (fun h => q0 h.1)] at PT
    by_cases q1 : m = 1
    · subst q1
      have b1 : ((kd : Int) % 6 == 1) = true := by rw [kq]; rfl
      rw [if_pos rfl] at DD
      have b3 : Below w2.heap.size w2 (w2.alloc (.cells #[.string (mkB other)] 9)) := (Below.refl _ _).alloc (Nat.le_refl _) _
      have O3 := own_one w2 w.heap.size (by omega) (.string (mkB other)) 9
      have WR := Lib.hid (rwrite_any q G t [(key, value)] [other] (some ⟨w.heap.size + 1, 0, none⟩) 1 1 (some ⟨w.heap.size + 1 + 1, 0, none⟩) 1 1 (some ⟨w2.heap.size, 0, none⟩) 1 1 _ (R2.out.below b3) RBH.out
        (RArg.of_own (l := [key]) (KH.out.alloc _) rfl FL.out (by simp) (by simp; omega)) (RArg.of_own (l := [value]) (VH.out.alloc _) rfl FL.out (by simp) (by simp; omega)) (RArg.of_own (l := [other]) O3 rfl FL.out (by simp) (by simp; omega)))
      have BW2 := Lib.hid (BW.out.trans (b3.mono (by omega)))
      rw [PT.out] at DD
      clear PT kq KH VH R2 RBH HB FL S2 b3 O3
      generalize rwriteF t [(key, value)] [other] = R at *
      go_wp2_with fail
      refine WR.out.mono ?_
      rintro e w3 ⟨rfl, hp⟩
      have HP2 := Lib.hid (hp.from BW2.out)
      clear hp
      go_wp2_with fail
      go_ret2
      exact ⟨by rw [DD.out]; rfl, by rw [DD.out]; exact HP2.out⟩
    · have b1 : ((kd : Int) % 6 == 1) = false := by rw [kq]; simp; omega
      rw [if_neg q1] at DD
      clear PT KH VH HB
      by_cases q2 : m = 2
      · subst q2
        have b2 : ((kd : Int) % 6 == 2) = true := by rw [kq]; rfl
        rw [if_pos rfl] at DD
        have WR := Lib.hid (ropen_any q G t w2 R2.out RBH.out)
        clear q0 q1 kq R2 RBH FL S2
        generalize ropenF t = R at *
        go_wp2_with fail
        refine WR.out.mono ?_
        rintro e w3 ⟨rfl, hp⟩
        have HP2 := Lib.hid (hp.from BW.out)
        clear hp
        go_wp2_with fail
        go_ret2
        exact ⟨by rw [DD.out]; rfl, by rw [DD.out]; exact HP2.out⟩
      · have b2 : ((kd : Int) % 6 == 2) = false := by rw [kq]; simp; omega
        rw [if_neg q2] at DD
        by_cases q3 : m = 3
        · subst q3
          have b3 : ((kd : Int) % 6 == 3) = true := by rw [kq]; rfl
          rw [if_pos rfl] at DD
          have WR := Lib.hid (rclose_any q G t nn w2 R2.out (by omega))
          have wn : IntKind.i64.wrap (nn : Int) = (nn : Int) := IntWalk.i64_in _ (by omega)
          clear q0 q1 q2 kq R2 RBH FL S2
          generalize rcloseF t nn = R at *
          go_wp2_with fail
          refine WR.out.mono ?_
          rintro e w3 ⟨rfl, hp⟩
          have HP2 := Lib.hid (hp.from BW.out)
          clear hp
          go_wp2_with fail
          go_ret2
          exact ⟨by rw [DD.out]; rfl, by rw [DD.out]; exact HP2.out⟩
        · have b3 : ((kd : Int) % 6 == 3) = false := by rw [kq]; simp; omega
          rw [if_neg q3] at DD
          by_cases q4 : m = 4
          · subst q4
            have b4 : ((kd : Int) % 6 == 4) = true := by rw [kq]; rfl
            rw [if_pos rfl] at DD
            have WR := Lib.hid (rcollect_any q G t w2 R2.out RBH.out)
            clear q0 q1 q2 q3 kq R2 RBH FL S2
            generalize rcollectF t = R at *
            go_wp2_with fail
            refine WR.out.mono ?_
            rintro e w3 ⟨rfl, hp⟩
            have HP2 := Lib.hid (hp.from BW.out)
            clear hp
            go_wp2_with fail
            go_ret2
            exact ⟨by rw [DD.out]; rfl, by rw [DD.out]; exact HP2.out⟩
          · have b4 : ((kd : Int) % 6 == 4) = false := by rw [kq]; simp; omega
            rw [if_neg q4] at DD
            have WR := Lib.hid (rforget_any q G t key w2 R2.out RBH.out)
            clear q0 q1 q2 q3 q4 kq R2 RBH FL S2
            generalize rforgetF t key = R at *
            go_wp2_with fail
            refine WR.out.mono ?_
            rintro e w3 ⟨rfl, hp⟩
            have HP2 := Lib.hid (hp.from BW.out)
            clear hp
            go_wp2_with fail
            go_ret2
            exact ⟨by rw [DD.out]; rfl, by rw [DD.out]; exact HP2.out⟩
end Go.Proofs.Ytfhgidbmeifflaa
