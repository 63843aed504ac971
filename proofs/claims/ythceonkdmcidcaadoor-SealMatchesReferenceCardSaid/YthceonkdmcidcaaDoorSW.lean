/- WALKS: seal.Verify behind its tests (printed by gen_sw.py). -/
import Derived.Test.YthceonkdmcidcaaDoorSV
set_option linter.unusedSimpArgs false
set_option linter.unusedVariables false
namespace Go.Proofs.YthceonkdmcidcaaDoor
open Go.RowKit Go.Shelf
attribute [local go_sem] Oper.semAt_some
attribute [local go_sem ↓] Go.wp_at_zero Go.wp_at_succ

def vAt (m : List UInt8) (sig : List (List UInt8)) (k : Nat) : List UInt8 := Sl.chainF (15 - (Sl.digs m).getD k 0) (sig.getD k [])
theorem v_snoc (m : List UInt8) (sig : List (List UInt8)) (pre : List (Up 18)) (x : Up 18) : sv ((pre ++ [x]).map fun y => vAt m sig y.1) = sv (pre.map fun y => vAt m sig y.1) ++ [.string (mkB (vAt m sig x.1))] := by
  rw [List.map_append, sv_app, List.map_cons, List.map_nil, sv_one]
theorem v_all (m : List UInt8) (sig : List (List UInt8)) {pre : List (Up 18)} (h : pre.map (·.1) = List.range 18) : (pre.map fun y => vAt m sig y.1) = Sl.vends m sig := by
  unfold Sl.vends
  rw [← h]
  simp only [List.map_map, Function.comp_def, vAt]
def VfI (w w1 : World) (B E : Nat) (m : List UInt8) (sig : List (List UInt8)) (pre : List (Up 18)) (W : World) : Prop :=
  (∃ v, W.heap[E]? = some (.cells #[v] 22 (0, 0)) ∧ W.ownsRow (E + 2) 9 1 v pre.length (sv (pre.map fun y => vAt m sig y.1))) ∧ Kx (E + 2) E w1 W ∧ Below B w W ∧ E + 2 ≤ W.heap.size
theorem vfI_own (w w1 : World) (B E : Nat) (m : List UInt8) (sig : List (List UInt8)) (B' : Nat) (hB : B = w.heap.size) (hE : B ≤ E) (hw1 : E + 2 ≤ w1.heap.size) (hB' : E + 2 ≤ B') : OwnFrom B' (VfI w w1 B E m sig) := by
  rintro t X Y row ⟨⟨v, hv, hr⟩, hk, hb, hz⟩ hg hrow
  exact ⟨⟨v, blk_keptR hv hg (fun r e => (hrow r e).2), own_keptR hr hg (fun r e => (hrow r e).2)⟩, kx_grown hk hw1 hg hB' (fun r e => (hrow r e).1), hb.grown hg (by have := hb.size; omega) (fun k e => by have := (hrow k e).1; omega), Nat.le_trans hz hg.size⟩
theorem vends_size {m : List UInt8} {sig : List (List UInt8)} (h : ∀ t ∈ sig, t.length ≤ 300) : ∀ t ∈ Sl.vends m sig, t.length ≤ 300 := by
  intro t ht
  obtain ⟨k, _, rfl⟩ := List.mem_map.1 ht
  generalize 15 - (Sl.digs m).getD k 0 = q
  cases q with
  | zero =>
    show (sig.getD k []).length ≤ 300
    rw [List.getD_eq_getElem?_getD]
    by_cases hk : k < sig.length
    · rw [List.getElem?_eq_getElem hk]; exact h _ (List.getElem_mem hk)
    · rw [List.getElem?_eq_none (by omega)]; decide
  | succ q => rw [Sl.chainF_succ, isD_len (Dg.sumL_isD _)]; decide
theorem climb_drop {path : List (List UInt8)} {k j : Nat} {a : List UInt8} (hk : k < path.length) : Sl.climb (path.drop (k + 1)) (j / 2 ^ (k + 1)) (Dg.sumL (pairB a (path.getD k []) (decide (j / 2 ^ k % 2 = 1)))) = Sl.climb (path.drop k) (j / 2 ^ k) a := by
  rw [List.drop_eq_getElem_cons hk, Sl.climb, Nat.pow_succ, Nat.div_div_eq_div_mul, List.getD_eq_getElem?_getD, List.getElem?_eq_getElem hk]
  congr 2
  unfold pairB Sl.pairT
  by_cases h : j / 2 ^ k % 2 = 1 <;> simp [h]
theorem shr_bit {j k : Nat} (h : j < 256) : (bits .and .i64 ((j : Int) / 2 ^ k) 1 == 1) = decide (j / 2 ^ k % 2 = 1) := by
  have key : ∀ q : Fin 256, (bits .and .i64 (q.val : Int) 1 == 1) = decide (q.val % 2 = 1) := by decide +kernel
  have e : ((j : Int) / 2 ^ k) = ((j / 2 ^ k : Nat) : Int) := by push_cast; rfl
  rw [e]
  exact key ⟨j / 2 ^ k, Nat.lt_of_le_of_lt (Nat.div_le_self _ _) h⟩
set_option maxRecDepth 100000 in
set_option maxHeartbeats 8000000 in
theorem verify_yes (pub m : ByteArray) (j : Nat) (A1 A2 : Option Addr) (c1 c2 : Nat) (sig path : List (List UInt8)) (w : World) (hm : m.size ≤ 1000) (h1 : VArg w A1 sig) (h2 : VArg w A2 path) (ht : Tab w) (k1 : sig.length = 18) (k2 : path.length ≤ 8) (k3 : oddL sig = false) (k4 : oddL path = false) (k6 : j < 2 ^ path.length) :
    Calls Tryd.prog 18 #[.string pub, .string m, .agg #[.int .i64 j, .slice A1 sig.length c1, .slice A2 path.length c2]] w fun e w' => e = .returned (.bool (decide (Sl.verF m.data.toList j sig path = pub.data.toList))) ∧ Below w.heap.size w w' := by
  have HT := Lib.hid ht; clear ht
  obtain ⟨B, hB⟩ : ∃ B, w.heap.size = B := ⟨_, rfl⟩
  have HW : Hid (w.heap.size = B) := Lib.hid hB
  obtain ⟨n1, hn1⟩ : ∃ n, sig.length = n := ⟨_, rfl⟩
  obtain ⟨n2, hn2⟩ : ∃ n, path.length = n := ⟨_, rfl⟩
  have N1 := Lib.hid hn1; have N2 := Lib.hid hn2
  have L1 := h1.len; have L2 := h2.len
  obtain ⟨W0, hW0⟩ : ∃ W0, W0 = w.alloc (.cells #[.int .i64 j, .slice A1 n1 c1, .slice A2 n2 c2] 24) := ⟨_, rfl⟩
  have z0 : W0.heap.size = B + 1 := by rw [hW0, ← hB]; simp
  have F0 : Hid (W0.heap[B]? = some (.cells #[.int .i64 j, .slice A1 n1 c1, .slice A2 n2 c2] 24 (0, 0))) := Lib.hid (by rw [hW0, ← hB]; exact heap_alloc_new w _)
  have bel0 : Hid (Below B w W0) := Lib.hid (by rw [hW0, ← hB]; exact (Below.refl _ _).alloc (Nat.le_refl _) _)
  have C0 : ∀ w', Below (B + 1) W0 w' → w'.cell? ⟨B, 0, none⟩ = some (.int .i64 j) := fun w' h => (h.cell (p := ⟨B, 0, none⟩) (by show B < B + 1; omega)).trans (cells3 F0.out).1
  have C1 : ∀ w', Below (B + 1) W0 w' → w'.cell? ⟨B, 1, none⟩ = some (.slice A1 n1 c1) := fun w' h => (h.cell (p := ⟨B, 1, none⟩) (by show B < B + 1; omega)).trans (cells3 F0.out).2.1
  have C2 : ∀ w', Below (B + 1) W0 w' → w'.cell? ⟨B, 2, none⟩ = some (.slice A2 n2 c2) := fun w' h => (h.cell (p := ⟨B, 2, none⟩) (by show B < B + 1; omega)).trans (cells3 F0.out).2.2
  have OS : Hid (∀ u, Below (B + 1) W0 u → Calls Tryd.prog 38 #[.slice A1 n1 c1] u fun e w' => e = .returned (.bool (oddL sig)) ∧ Below u.heap.size u w') := Lib.hid (fun u hu => by
    rw [← hn1]; exact odd_any A1 c1 sig u (by omega) (fun t ht => by have := h1.size t ht; omega) (h1.rd.below (hB ▸ (bel0.out.trans (hu.mono (by omega))))))
  have OP : Hid (∀ u, Below (B + 1) W0 u → Calls Tryd.prog 38 #[.slice A2 n2 c2] u fun e w' => e = .returned (.bool (oddL path)) ∧ Below u.heap.size u w') := Lib.hid (fun u hu => by
    rw [← hn2]; exact odd_any A2 c2 path u (by omega) (fun t ht => by have := h2.size t ht; omega) (h2.rd.below (hB ▸ (bel0.out.trans (hu.mono (by omega))))))
  have c1' := C1 W0 (Below.refl _ _)
  have c2' := C2 W0 (Below.refl _ _)
  have R1 := Lib.hid h1.rd; have R2 := Lib.hid h2.rd; have Z1 := Lib.hid h1.size; have Z2 := Lib.hid h2.size
  rw [hn1] at k1
  rw [hn2] at k2 k6
  rw [k3] at OS
  rw [k4] at OP
  have e1 : ((n1 : Int) != 18) = false := by simp; omega
  have e2 : decide ((8 : Int) < (n2 : Int)) = false := by simp; omega
  have PW := wrap_pow (h := n2) k2
  have PW2 := wrap_pow2 (h := n2) k2
  generalize hq2 : 2 ^ n2 = q2 at *
  have e5 : decide ((j : Int) < 0) = false := by simp
  have e6 : decide ((q2 : Int) ≤ (j : Int)) = false := by simp; omega
  have e7 : decide (q2 ≤ j) = false := by simp; omega
  have i0 : (0 : Int) ≤ (n2 : Int) := by omega
  have i1 : (n2 : Int) < 64 := by omega
  rw [hn1, hn2]
  have K1 := Lib.hid k1; have K2 := Lib.hid k2; have K6 := Lib.hid k6; have Q2 := Lib.hid hq2
  clear hn1 hn2 h1 h2 k1 k3 k4 k6 hq2
  (refine (callsIn_wide (n := 5)).1 ?_; refine callsIn_of_wp_marks Tryd.func18 rfl trivial ?_ rfl; simp only [Tryd.ntmps18, List.size_toArray, List.length_cons, List.length_nil, Nat.reduceAdd, Nat.reduceSub, Array.replicate_succ, Array.replicate_zero, List.push_toArray, List.append_toArray, List.nil_append, List.cons_append]; refine wpIn_wide.2 ?_)
  go_wp2_with fail
  rw [← hW0]
  clear hW0 hB
  go_wp2_with fail
  (refine wp_region_noPanic ?_; refine wp_region_held_drew (S := (fun w' => Below (B + 1) W0 w')) (by kernel_rfl) ?_ (fun hHeld => ?_); exact ((Below.refl _ _).drew))
  (refine wpAnyH_take (i := 0) (oi := _) (v := ?_) rfl (by kernel_rfl) (by kernel_rfl) (by kernel_rfl) (fun _ _ _ h => h) (Or.inl ⟨?_, ?_⟩) (by assumption) ?_; rotate_left; (focus (first | rfl | (simp [Region.wanted, yielded]; done))); (focus (intro w hSw; (try dsimp only at hSw); go_simp; all_goals (with_reducible rfl))); try simp only [Act.put, List.getElem_toArray, List.getElem_cons_zero, List.getElem_cons_succ, List.setIfInBounds_toArray, List.set_cons_zero, List.set_cons_succ])
  (refine wpAnyH_take (i := 1) (oi := _) (v := ?_) rfl (by kernel_rfl) (by kernel_rfl) (by kernel_rfl) (fun _ _ _ h => h) (Or.inl ⟨?_, ?_⟩) (by assumption) ?_; rotate_left; (focus (first | rfl | (simp [Region.wanted, yielded]; done))); (focus (intro w hSw; (try dsimp only at hSw); go_simp; all_goals (with_reducible rfl))); try simp only [Act.put, List.getElem_toArray, List.getElem_cons_zero, List.getElem_cons_succ, List.setIfInBounds_toArray, List.set_cons_zero, List.set_cons_succ])
  (refine wpAnyH_take (i := 2) (oi := _) (v := ?_) rfl (by kernel_rfl) (by kernel_rfl) (by kernel_rfl) (fun _ _ _ h => h) (Or.inl ⟨?_, ?_⟩) (by assumption) ?_; rotate_left; (focus (first | rfl | (simp [Region.wanted, yielded]; done))); (focus (intro w hSw; (try dsimp only at hSw); go_simp; all_goals (with_reducible rfl))); try simp only [Act.put, List.getElem_toArray, List.getElem_cons_zero, List.getElem_cons_succ, List.setIfInBounds_toArray, List.set_cons_zero, List.set_cons_succ])
  (refine wpAnyH_take (i := 3) (oi := _) (v := ?_) rfl (by kernel_rfl) (by kernel_rfl) (by kernel_rfl) (fun _ _ _ h => h) (Or.inl ⟨?_, ?_⟩) (by assumption) ?_; rotate_left; (focus (first | rfl | (simp [Region.wanted, yielded]; done))); (focus (intro w hSw; (try dsimp only at hSw); go_simp; all_goals (with_reducible rfl))); try simp only [Act.put, List.getElem_toArray, List.getElem_cons_zero, List.getElem_cons_succ, List.setIfInBounds_toArray, List.set_cons_zero, List.set_cons_succ])
  (refine wpAnyH_take (i := 4) (oi := _) (v := ?_) rfl (by kernel_rfl) (by kernel_rfl) (by kernel_rfl) (fun _ _ _ h => h) (Or.inl ⟨?_, ?_⟩) (by assumption) ?_; rotate_left; (focus (first | rfl | (simp [Region.wanted, yielded]; done))); (focus (intro w hSw; (try dsimp only at hSw); go_simp; all_goals (with_reducible rfl))); try simp only [Act.put, List.getElem_toArray, List.getElem_cons_zero, List.getElem_cons_succ, List.setIfInBounds_toArray, List.set_cons_zero, List.set_cons_succ])
  (refine wpAnyH_take (i := 5) (oi := _) (v := ?_) rfl (by kernel_rfl) (by kernel_rfl) (by kernel_rfl) (fun _ _ _ h => h) (Or.inl ⟨?_, ?_⟩) (by assumption) ?_; rotate_left; (focus (first | rfl | (simp [Region.wanted, yielded]; done))); (focus (intro w hSw; (try dsimp only at hSw); go_simp; all_goals (with_reducible rfl))); try simp only [Act.put, List.getElem_toArray, List.getElem_cons_zero, List.getElem_cons_succ, List.setIfInBounds_toArray, List.set_cons_zero, List.set_cons_succ])
  (refine wpAnyH_take (i := 6) (oi := _) (v := ?_) rfl (by kernel_rfl) (by kernel_rfl) (by kernel_rfl) (fun _ _ _ h => h) (Or.inl ⟨?_, ?_⟩) (by assumption) ?_; rotate_left; (focus (first | rfl | (simp [Region.wanted, yielded]; done))); (focus (intro w hSw; (try dsimp only at hSw); go_simp; all_goals (with_reducible rfl))); try simp only [Act.put, List.getElem_toArray, List.getElem_cons_zero, List.getElem_cons_succ, List.setIfInBounds_toArray, List.set_cons_zero, List.set_cons_succ])
  (refine wpAnyH_take (i := 7) (oi := _) (v := ?_) rfl (by kernel_rfl) (by kernel_rfl) (by kernel_rfl) (fun _ _ _ h => h) (Or.inl ⟨?_, ?_⟩) (by assumption) ?_; rotate_left; (focus (first | rfl | (simp [Region.wanted, yielded]; done))); (focus (intro w hSw; (try dsimp only at hSw); go_simp; all_goals (with_reducible rfl))); try simp only [Act.put, List.getElem_toArray, List.getElem_cons_zero, List.getElem_cons_succ, List.setIfInBounds_toArray, List.set_cons_zero, List.set_cons_succ])
  (refine wpAnyH_take (i := 8) (oi := _) (v := ?_) rfl (by kernel_rfl) (by kernel_rfl) (by kernel_rfl) (fun _ _ _ h => h) (Or.inl ⟨?_, ?_⟩) (by assumption) ?_; rotate_left; (focus (first | rfl | (simp [Region.wanted, yielded]; done))); (focus (intro w hSw; (try dsimp only at hSw); go_simp; all_goals (with_reducible rfl))); try simp only [Act.put, List.getElem_toArray, List.getElem_cons_zero, List.getElem_cons_succ, List.setIfInBounds_toArray, List.set_cons_zero, List.set_cons_succ])
  (refine wpAnyH_take (i := 9) (oi := _) (v := ?_) rfl (by kernel_rfl) (by kernel_rfl) (by kernel_rfl) (fun _ _ _ h => h) (Or.inl ⟨?_, ?_⟩) (by assumption) ?_; rotate_left; (focus (first | rfl | (simp [Region.wanted, yielded]; done))); (focus (intro w hSw; (try dsimp only at hSw); go_simp; all_goals (with_reducible rfl))); try simp only [Act.put, List.getElem_toArray, List.getElem_cons_zero, List.getElem_cons_succ, List.setIfInBounds_toArray, List.set_cons_zero, List.set_cons_succ])
  (refine wpAnyH_take (i := 10) (oi := _) (v := ?_) rfl (by kernel_rfl) (by kernel_rfl) (by kernel_rfl) (fun _ _ _ h => h) (Or.inl ⟨?_, ?_⟩) (by assumption) ?_; rotate_left; (focus (first | rfl | (simp [Region.wanted, yielded]; done))); (focus (intro w hSw; (try dsimp only at hSw); go_simp; all_goals (with_reducible rfl))); try simp only [Act.put, List.getElem_toArray, List.getElem_cons_zero, List.getElem_cons_succ, List.setIfInBounds_toArray, List.set_cons_zero, List.set_cons_succ])
  (refine wpAnyH_take (i := 11) (oi := _) (v := ?_) rfl (by kernel_rfl) (by kernel_rfl) (by kernel_rfl) (fun _ _ _ h => h) (Or.inl ⟨?_, ?_⟩) (by assumption) ?_; rotate_left; (focus (first | rfl | (simp [Region.wanted, yielded]; done))); (focus (intro w hSw; (try dsimp only at hSw); go_simp; all_goals (with_reducible rfl))); try simp only [Act.put, List.getElem_toArray, List.getElem_cons_zero, List.getElem_cons_succ, List.setIfInBounds_toArray, List.set_cons_zero, List.set_cons_succ])
  (refine wpAnyH_ready (rs := [12]) (by kernel_rfl) (by simp) ?_; refine AllReadyH.cons (o := _) rfl (fun K hK => ?_) AllReadyH.nil; go_simp)
  refine (OS.out _ hHeld).mono ?_
  rintro e v1 ⟨rfl, hb⟩
  have Sv1 := Lib.hid (hHeld.trans (hb.mono (below_size1 z0 hHeld))); clear hb
  (refine hK.out _ _ Sv1.out (fun hHeld2 => ?_); clear hK K hHeld; have hHeld := hHeld2; clear hHeld2; try simp only [Act.put, List.getElem_toArray, List.getElem_cons_zero, List.getElem_cons_succ, List.setIfInBounds_toArray, List.set_cons_zero, List.set_cons_succ])
  (refine wpAnyH_take (i := 13) (oi := _) (v := ?_) rfl (by kernel_rfl) (by kernel_rfl) (by kernel_rfl) (fun _ _ _ h => h) (Or.inl ⟨?_, ?_⟩) (by assumption) ?_; rotate_left; (focus (first | rfl | (simp [Region.wanted, yielded]; done))); (focus (intro w hSw; (try dsimp only at hSw); go_simp; all_goals (with_reducible rfl))); try simp only [Act.put, List.getElem_toArray, List.getElem_cons_zero, List.getElem_cons_succ, List.setIfInBounds_toArray, List.set_cons_zero, List.set_cons_succ])
  (refine wpAnyH_take (i := 14) (oi := _) (v := ?_) rfl (by kernel_rfl) (by kernel_rfl) (by kernel_rfl) (fun _ _ _ h => h) (Or.inl ⟨?_, ?_⟩) (by assumption) ?_; rotate_left; (focus (first | rfl | (simp [Region.wanted, yielded]; done))); (focus (intro w hSw; (try dsimp only at hSw); go_simp; all_goals (with_reducible rfl))); try simp only [Act.put, List.getElem_toArray, List.getElem_cons_zero, List.getElem_cons_succ, List.setIfInBounds_toArray, List.set_cons_zero, List.set_cons_succ])
  (refine wpAnyH_take (i := 15) (oi := _) (v := ?_) rfl (by kernel_rfl) (by kernel_rfl) (by kernel_rfl) (fun _ _ _ h => h) (Or.inl ⟨?_, ?_⟩) (by assumption) ?_; rotate_left; (focus (first | rfl | (simp [Region.wanted, yielded]; done))); (focus (intro w hSw; (try dsimp only at hSw); go_simp; all_goals (with_reducible rfl))); try simp only [Act.put, List.getElem_toArray, List.getElem_cons_zero, List.getElem_cons_succ, List.setIfInBounds_toArray, List.set_cons_zero, List.set_cons_succ])
  (refine wpAnyH_take (i := 16) (oi := _) (v := ?_) rfl (by kernel_rfl) (by kernel_rfl) (by kernel_rfl) (fun _ _ _ h => h) (Or.inl ⟨?_, ?_⟩) (by assumption) ?_; rotate_left; (focus (first | rfl | (simp [Region.wanted, yielded]; done))); (focus (intro w hSw; (try dsimp only at hSw); go_simp; all_goals (with_reducible rfl))); try simp only [Act.put, List.getElem_toArray, List.getElem_cons_zero, List.getElem_cons_succ, List.setIfInBounds_toArray, List.set_cons_zero, List.set_cons_succ])
  (refine wpAnyH_take (i := 17) (oi := _) (v := ?_) rfl (by kernel_rfl) (by kernel_rfl) (by kernel_rfl) (fun _ _ _ h => h) (Or.inl ⟨?_, ?_⟩) (by assumption) ?_; rotate_left; (focus (first | rfl | (simp [Region.wanted, yielded]; done))); (focus (intro w hSw; (try dsimp only at hSw); go_simp; all_goals (with_reducible rfl))); try simp only [Act.put, List.getElem_toArray, List.getElem_cons_zero, List.getElem_cons_succ, List.setIfInBounds_toArray, List.set_cons_zero, List.set_cons_succ])
  (refine wpAnyH_ready (rs := [18]) (by kernel_rfl) (by simp) ?_; refine AllReadyH.cons (o := _) rfl (fun K hK => ?_) AllReadyH.nil; go_simp)
  refine (OP.out _ hHeld).mono ?_
  rintro e v2 ⟨rfl, hb⟩
  have Sv2 := Lib.hid (hHeld.trans (hb.mono (below_size1 z0 hHeld))); clear hb
  (refine hK.out _ _ Sv2.out (fun hHeld2 => ?_); clear hK K hHeld; have hHeld := hHeld2; clear hHeld2; try simp only [Act.put, List.getElem_toArray, List.getElem_cons_zero, List.getElem_cons_succ, List.setIfInBounds_toArray, List.set_cons_zero, List.set_cons_succ])
  (refine wpAnyH_take (i := 19) (oi := _) (v := ?_) rfl (by kernel_rfl) (by kernel_rfl) (by kernel_rfl) (fun _ _ _ h => h) (Or.inl ⟨?_, ?_⟩) (by assumption) ?_; rotate_left; (focus (first | rfl | (simp [Region.wanted, yielded]; done))); (focus (intro w hSw; (try dsimp only at hSw); go_simp; all_goals (with_reducible rfl))); try simp only [Act.put, List.getElem_toArray, List.getElem_cons_zero, List.getElem_cons_succ, List.setIfInBounds_toArray, List.set_cons_zero, List.set_cons_succ])
  (refine wpAnyH_take (i := 20) (oi := _) (v := ?_) rfl (by kernel_rfl) (by kernel_rfl) (by kernel_rfl) (fun _ _ _ h => h) (Or.inl ⟨?_, ?_⟩) (by assumption) ?_; rotate_left; (focus (first | rfl | (simp [Region.wanted, yielded]; done))); (focus (intro w hSw; (try dsimp only at hSw); go_simp; all_goals (with_reducible rfl))); try simp only [Act.put, List.getElem_toArray, List.getElem_cons_zero, List.getElem_cons_succ, List.setIfInBounds_toArray, List.set_cons_zero, List.set_cons_succ])
  (refine wpAnyH_take (i := 21) (oi := _) (v := ?_) rfl (by kernel_rfl) (by kernel_rfl) (by kernel_rfl) (fun _ _ _ h => h) (Or.inl ⟨?_, ?_⟩) (by assumption) ?_; rotate_left; (focus (first | rfl | (simp [Region.wanted, yielded]; done))); (focus (intro w hSw; (try dsimp only at hSw); go_simp; all_goals (with_reducible rfl))); try simp only [Act.put, List.getElem_toArray, List.getElem_cons_zero, List.getElem_cons_succ, List.setIfInBounds_toArray, List.set_cons_zero, List.set_cons_succ])
  (refine wpAnyH_take (i := 22) (oi := _) (v := ?_) rfl (by kernel_rfl) (by kernel_rfl) (by kernel_rfl) (fun _ _ _ h => h) (Or.inl ⟨?_, ?_⟩) (by assumption) ?_; rotate_left; (focus (first | rfl | (simp [Region.wanted, yielded]; done))); (focus (intro w hSw; (try dsimp only at hSw); go_simp; all_goals (with_reducible rfl))); try simp only [Act.put, List.getElem_toArray, List.getElem_cons_zero, List.getElem_cons_succ, List.setIfInBounds_toArray, List.set_cons_zero, List.set_cons_succ])
  (refine wpAnyH_take (i := 23) (oi := _) (v := ?_) rfl (by kernel_rfl) (by kernel_rfl) (by kernel_rfl) (fun _ _ _ h => h) (Or.inl ⟨?_, ?_⟩) (by assumption) ?_; rotate_left; (focus (first | rfl | (simp [Region.wanted, yielded]; done))); (focus (intro w hSw; (try dsimp only at hSw); go_simp; all_goals (with_reducible rfl))); try simp only [Act.put, List.getElem_toArray, List.getElem_cons_zero, List.getElem_cons_succ, List.setIfInBounds_toArray, List.set_cons_zero, List.set_cons_succ])
  (refine wpAnyH_take (i := 24) (oi := _) (v := ?_) rfl (by kernel_rfl) (by kernel_rfl) (by kernel_rfl) (fun _ _ _ h => h) (Or.inl ⟨?_, ?_⟩) (by assumption) ?_; rotate_left; (focus (first | rfl | (simp [Region.wanted, yielded]; done))); (focus (intro w hSw; (try dsimp only at hSw); go_simp; all_goals (with_reducible rfl))); try simp only [Act.put, List.getElem_toArray, List.getElem_cons_zero, List.getElem_cons_succ, List.setIfInBounds_toArray, List.set_cons_zero, List.set_cons_succ])
  (refine wpAnyH_take (i := 25) (oi := _) (v := ?_) rfl (by kernel_rfl) (by kernel_rfl) (by kernel_rfl) (fun _ _ _ h => h) (Or.inl ⟨?_, ?_⟩) (by assumption) ?_; rotate_left; (focus (first | rfl | (simp [Region.wanted, yielded]; done))); (focus (intro w hSw; (try dsimp only at hSw); go_simp; all_goals (with_reducible rfl))); try simp only [Act.put, List.getElem_toArray, List.getElem_cons_zero, List.getElem_cons_succ, List.setIfInBounds_toArray, List.set_cons_zero, List.set_cons_succ])
  (refine wpAnyH_take (i := 26) (oi := _) (v := ?_) rfl (by kernel_rfl) (by kernel_rfl) (by kernel_rfl) (fun _ _ _ h => h) (Or.inl ⟨?_, ?_⟩) (by assumption) ?_; rotate_left; (focus (first | rfl | (simp [Region.wanted, yielded]; done))); (focus (intro w hSw; (try dsimp only at hSw); go_simp; all_goals (with_reducible rfl))); try simp only [Act.put, List.getElem_toArray, List.getElem_cons_zero, List.getElem_cons_succ, List.setIfInBounds_toArray, List.set_cons_zero, List.set_cons_succ])
  (refine wpAnyH_take (i := 27) (oi := _) (v := ?_) rfl (by kernel_rfl) (by kernel_rfl) (by kernel_rfl) (fun _ _ _ h => h) (Or.inl ⟨?_, ?_⟩) (by assumption) ?_; rotate_left; (focus (first | rfl | (simp [Region.wanted, yielded]; done))); (focus (intro w hSw; (try dsimp only at hSw); go_simp; all_goals (with_reducible rfl))); try simp only [Act.put, List.getElem_toArray, List.getElem_cons_zero, List.getElem_cons_succ, List.setIfInBounds_toArray, List.set_cons_zero, List.set_cons_succ])
  (refine wpAnyH_take (i := 28) (oi := _) (v := ?_) rfl (by kernel_rfl) (by kernel_rfl) (by kernel_rfl) (fun _ _ _ h => h) (Or.inl ⟨?_, ?_⟩) (by assumption) ?_; rotate_left; (focus (first | rfl | (simp [Region.wanted, yielded]; done))); (focus (intro w hSw; (try dsimp only at hSw); go_simp; all_goals (with_reducible rfl))); try simp only [Act.put, List.getElem_toArray, List.getElem_cons_zero, List.getElem_cons_succ, List.setIfInBounds_toArray, List.set_cons_zero, List.set_cons_succ])
  (refine wpAnyH_take (i := 29) (oi := _) (v := ?_) rfl (by kernel_rfl) (by kernel_rfl) (by kernel_rfl) (fun _ _ _ h => h) (Or.inl ⟨?_, ?_⟩) (by assumption) ?_; rotate_left; (focus (first | rfl | (simp [Region.wanted, yielded]; done))); (focus (intro w hSw; (try dsimp only at hSw); go_simp; all_goals (with_reducible rfl))); try simp only [Act.put, List.getElem_toArray, List.getElem_cons_zero, List.getElem_cons_succ, List.setIfInBounds_toArray, List.set_cons_zero, List.set_cons_succ])
  (refine wpAnyH_take (i := 30) (oi := _) (v := ?_) rfl (by kernel_rfl) (by kernel_rfl) (by kernel_rfl) (fun _ _ _ h => h) (Or.inl ⟨?_, ?_⟩) (by assumption) ?_; rotate_left; (focus (first | rfl | (simp [Region.wanted, yielded]; done))); (focus (intro w hSw; (try dsimp only at hSw); go_simp; all_goals (with_reducible rfl))); try simp only [Act.put, List.getElem_toArray, List.getElem_cons_zero, List.getElem_cons_succ, List.setIfInBounds_toArray, List.set_cons_zero, List.set_cons_succ])
  (refine wpAnyH_take (i := 31) (oi := _) (v := ?_) rfl (by kernel_rfl) (by kernel_rfl) (by kernel_rfl) (fun _ _ _ h => h) (Or.inl ⟨?_, ?_⟩) (by assumption) ?_; rotate_left; (focus (first | rfl | (simp [Region.wanted, yielded]; done))); (focus (intro w hSw; (try dsimp only at hSw); go_simp; all_goals (with_reducible rfl))); try simp only [Act.put, List.getElem_toArray, List.getElem_cons_zero, List.getElem_cons_succ, List.setIfInBounds_toArray, List.set_cons_zero, List.set_cons_succ])
  (refine wpAnyH_done (by kernel_rfl) ?_ _; refine NoPanic.normal ?_)
  have bel2 := Lib.hid (bel0.out.trans (hHeld.mono (by omega)))
  have G2 := Lib.hid ((hHeld.block B (by omega)).trans F0.out)
  have hzB : B + 1 ≤ v2.heap.size := below_size1 z0 hHeld
  clear hHeld Sv1 Sv2 c1' c2' C0 C1 C2 OS OP e1 e2 e5 e6 e7 PW PW2
  obtain ⟨E, hE⟩ : ∃ E, v2.heap.size = E := ⟨_, rfl⟩
  have HE : Hid (v2.heap.size = E) := Lib.hid hE
  go_wp2_with fail
  refine (digits_make m _).mono ?_
  rintro e w1 ⟨rfl, hw1⟩
  have F1 : Hid (w1.heap[E]? = some (.cells #[.slice none 0 0] 22 (0, 0))) := Lib.hid (by rw [← hw1, ← hE]; exact (alloc_old _ _ (by simp)).trans (alloc_new' _ _ _ rfl))
  have F2 : Hid (w1.heap[E + 1]? = some (.cells #[.string m] 9 (0, 0))) := Lib.hid (by rw [← hw1, ← hE]; exact alloc_new' _ _ _ (by simp))
  have F3 : Hid (w1.heap[B]? = some (.cells #[.int .i64 j, .slice A1 n1 c1, .slice A2 n2 c2] 24 (0, 0))) := Lib.hid (by rw [← hw1]; exact (alloc_old _ _ (by simp; omega)).trans ((alloc_old _ _ (by omega)).trans G2.out))
  have z1 : w1.heap.size = E + 2 := by rw [← hw1, ← hE]; simp
  have bel1 : Hid (Below B w w1) := Lib.hid (by
    rw [← hw1]
    exact (bel2.out.alloc (by omega) _).alloc (by simp; omega) _)
  clear hw1
  simp only [World.size_alloc, hE]
  clear hE
  go_wp2_with fail
  refine (wpIn_wide (n := 4)).1 ?_
  refine wpIn_rangeFunc_ownF (F := Fence.wide) rfl (by decide) (gf := 56) (lb := #[.pointer (some ⟨E + 1, 0, none⟩)]) rfl trivial (enters_of Tryd.func56 (by kernel_rfl) rfl)
    (digits_stops m (E + 1) w1 hm (by omega) (cell_of_row w1 (E + 1) 0 _ _ _ F2.out)) (fun _ _ => trivial) (fun _ _ _ _ _ _ _ _ => trivial) (Below.refl _ _) (fun _ => rfl)
    (VfI w w1 B E m.data.toList sig) (fun _ _ _ => False) (vfI_own w w1 B E _ _ _ HW.out.symm (by have := HE.out; omega) (by omega) (by omega)) (fun _ _ _ _ _ h _ _ => h)
    ⟨⟨_, F1.out, World.ownsRow_nil _ _ _ _⟩, Kx.refl _ _ _, bel1.out, by omega⟩
    (fun x => { tmps := #[.string pub, .string m, .agg #[.int .i64 j, .slice A1 n1 c1, .slice A2 n2 c2], undef, undef, .pointer (some ⟨B, 0, none⟩), .bool false, .int .i64 n2, .func (.func 38) #[] #[], .pointer (some ⟨E, 0, none⟩), .int .i64 x.1, .int .i64 (((Sl.digs m.data.toList).getD x.1 0 : Nat) : Int), undef, undef, undef, .pointer (some ⟨B, 2, none⟩), .slice A2 n2 c2, .int .i64 n2, .pointer (some ⟨B, 1, none⟩), .slice A1 n1 c1, .int .i64 n1, .bool false, .bool false, .int .i64 n2, .bool false, .bool false, .bool false, .func (.func 38) #[] #[], .pointer (some ⟨B, 1, none⟩), .slice A1 n1 c1, .bool false, .bool false, .bool false, .func (.func 38) #[] #[], .pointer (some ⟨B, 2, none⟩), .slice A2 n2 c2, .bool false, .bool false, .bool false, .pointer (some ⟨B, 0, none⟩), .int .i64 j, .bool false, .bool false, .bool false, .pointer (some ⟨B, 0, none⟩), .int .i64 j, .int .i64 n2, .int .i64 q2, .bool false, .bool false, .string m, .func (.func 56) #[] #[.pointer (some ⟨E + 1, 0, none⟩)], .int .i64 x.1, .int .i64 (((Sl.digs m.data.toList).getD x.1 0 : Nat) : Int), undef, undef, undef, undef, undef, undef, undef, undef, undef, undef, undef, undef, undef, undef, undef, undef, undef, undef, undef, undef, undef, undef, undef, undef, undef, undef, undef, undef, undef, undef, undef, undef, undef, undef], defers := [] }) ?assign ?body ?done ?stop
  case assign =>
    intro l x W K hK
    unfold encD
    gi_wp2
    exact hK
  case body =>
    rintro l pre x W ⟨⟨v, hF, hown⟩, hkx, hbel, hz⟩ hlen
    have hBE : B < E := by have := HE.out; omega
    have hx18 := x.2
    have hd15 := Sl.digs_le m.data.toList x.1
    have hxs : x.1 < sig.length := by have := N1.out; have := K1.out; omega
    have hts : (sig.getD x.1 []).length ≤ 300 := by rw [List.getD_eq_getElem?_getD, List.getElem?_eq_getElem hxs]; exact Z1.out _ (List.getElem_mem hxs)
    have CC : Hid (∀ u, Calls Tryd.prog 31 #[.string (mkB (sig.getD x.1 [])), .int .i64 ((15 : Int) - (((Sl.digs m.data.toList).getD x.1 0 : Nat) : Int))] u fun e w' => e = .returned (.string (mkB (vAt m.data.toList sig x.1))) ∧ Below u.heap.size u w') := Lib.hid (fun u => by
      have := chain_any (mkB (sig.getD x.1 [])) (15 - (Sl.digs m.data.toList).getD x.1 0) ((15 : Int) - (((Sl.digs m.data.toList).getD x.1 0 : Nat) : Int)) u (by omega) (by omega) (by rw [mkB_size]; omega)
      rw [mkB_list] at this
      exact this)
    have PS := Lib.hid (v_snoc m.data.toList sig pre x)
    obtain ⟨b, off, eA, hb, hcell⟩ := R1.out (by rw [sv_len]; omega)
    subst eA
    have ecell := hcell x.1 _ (getD_at hxs)
    rw [HW.out] at hb
    generalize vAt m.data.toList sig x.1 = y at *
    generalize sig.getD x.1 [] = st at *
    generalize (Sl.digs m.data.toList).getD x.1 0 = d at *
    have C1 : ∀ w', Kx (E + 2) E w1 w' → w'.cell? ⟨B, 1, none⟩ = some (.slice (some ⟨b, off, none⟩) n1 c1) := fun w' h => (h.cell (p := ⟨B, 1, none⟩) (by show B < E + 2; omega) (by show B ≠ E; omega)).trans (cells3 F3.out).2.1
    have C2 : ∀ w', Kx (E + 2) E w1 w' → w'.cell? ⟨b, off + x.1, none⟩ = some (.string (mkB st)) := fun w' h => (h.cell (p := ⟨b, off + x.1, none⟩) (by show b < E + 2; omega) (by show b ≠ E; omega)).trans ((bel1.out.cell (p := ⟨b, off + x.1, none⟩) hb).trans ecell)
    obtain ⟨A5, c5, rfl, -, -⟩ := own_form hown
    have HOWN := Lib.hid hown; have HF := Lib.hid hF
    have hBW : B ≤ W.heap.size := by omega
    have hc0 : W.cell? ⟨E, 0, none⟩ = some (.slice A5 pre.length c5) := cell_of_row W E 0 _ _ _ hF
    have ix0 : (0 : Int) ≤ (x.1 : Int) := by omega
    have ix1 : (x.1 : Int) < (n1 : Int) := by have := K1.out; omega
    have hlen2 : pre.length < 1000 := by omega
    have w15 : IntKind.i64.wrap ((15 : Int) - (d : Int)) = (15 : Int) - (d : Int) := IntWalk.i64_in _ (by omega)
    clear hown hF hcell ecell hts hxs
    refine wpIn_block ?_
    (refine round_held (fun w' => Kx (E + 2) E w1 w') (by kernel_rfl) (fun h => (by obtain ⟨_, _, h⟩ := h; exact h)) (by kernel_rfl) ?_ (fun hHeld => ?_); exact (hkx.drewN 1))
    (refine wpAnyH_take (i := 1) (oi := _) (v := ?_) rfl (by kernel_rfl) (by kernel_rfl) (by kernel_rfl) (fun _ _ _ h => h) (Or.inl ⟨?_, ?_⟩) (by assumption) ?_; rotate_left; (focus (first | rfl | (simp [Region.wanted, yielded]; done))); (focus (intro w hSw; (try dsimp only at hSw); go_simp; all_goals (with_reducible rfl))); try simp only [Act.put, List.getElem_toArray, List.getElem_cons_zero, List.getElem_cons_succ, List.setIfInBounds_toArray, List.set_cons_zero, List.set_cons_succ])
    (refine wpAnyH_take (i := 2) (oi := _) (v := ?_) rfl (by kernel_rfl) (by kernel_rfl) (by kernel_rfl) (fun _ _ _ h => h) (Or.inl ⟨?_, ?_⟩) (by assumption) ?_; rotate_left; (focus (first | rfl | (simp [Region.wanted, yielded]; done))); (focus (intro w hSw; (try dsimp only at hSw); go_simp; all_goals (with_reducible rfl))); try simp only [Act.put, List.getElem_toArray, List.getElem_cons_zero, List.getElem_cons_succ, List.setIfInBounds_toArray, List.set_cons_zero, List.set_cons_succ])
    (refine wpAnyH_take (i := 3) (oi := _) (v := ?_) rfl (by kernel_rfl) (by kernel_rfl) (by kernel_rfl) (fun _ _ _ h => h) (Or.inl ⟨?_, ?_⟩) (by assumption) ?_; rotate_left; (focus (first | rfl | (simp [Region.wanted, yielded]; done))); (focus (intro w hSw; (try dsimp only at hSw); go_simp; all_goals (with_reducible rfl))); try simp only [Act.put, List.getElem_toArray, List.getElem_cons_zero, List.getElem_cons_succ, List.setIfInBounds_toArray, List.set_cons_zero, List.set_cons_succ])
    (refine wpAnyH_take (i := 4) (oi := _) (v := ?_) rfl (by kernel_rfl) (by kernel_rfl) (by kernel_rfl) (fun _ _ _ h => h) (Or.inl ⟨?_, ?_⟩) (by assumption) ?_; rotate_left; (focus (first | rfl | (simp [Region.wanted, yielded]; done))); (focus (intro w hSw; (try dsimp only at hSw); go_simp; all_goals (with_reducible rfl))); try simp only [Act.put, List.getElem_toArray, List.getElem_cons_zero, List.getElem_cons_succ, List.setIfInBounds_toArray, List.set_cons_zero, List.set_cons_succ])
    (refine wpAnyH_take (i := 5) (oi := _) (v := ?_) rfl (by kernel_rfl) (by kernel_rfl) (by kernel_rfl) (fun _ _ _ h => h) (Or.inl ⟨?_, ?_⟩) (by assumption) ?_; rotate_left; (focus (first | rfl | (simp [Region.wanted, yielded]; done))); (focus (intro w hSw; (try dsimp only at hSw); go_simp; all_goals (with_reducible rfl))); try simp only [Act.put, List.getElem_toArray, List.getElem_cons_zero, List.getElem_cons_succ, List.setIfInBounds_toArray, List.set_cons_zero, List.set_cons_succ])
    (refine wpAnyH_take (i := 6) (oi := _) (v := ?_) rfl (by kernel_rfl) (by kernel_rfl) (by kernel_rfl) (fun _ _ _ h => h) (Or.inl ⟨?_, ?_⟩) (by assumption) ?_; rotate_left; (focus (first | rfl | (simp [Region.wanted, yielded]; done))); (focus (intro w hSw; (try dsimp only at hSw); go_simp; all_goals (with_reducible rfl))); try simp only [Act.put, List.getElem_toArray, List.getElem_cons_zero, List.getElem_cons_succ, List.setIfInBounds_toArray, List.set_cons_zero, List.set_cons_succ])
    (refine wpAnyH_take (i := 7) (oi := _) (v := ?_) rfl (by kernel_rfl) (by kernel_rfl) (by kernel_rfl) (fun _ _ _ h => h) (Or.inl ⟨?_, ?_⟩) (by assumption) ?_; rotate_left; (focus (first | rfl | (simp [Region.wanted, yielded]; done))); (focus (intro w hSw; (try dsimp only at hSw); go_simp; all_goals (with_reducible rfl))); try simp only [Act.put, List.getElem_toArray, List.getElem_cons_zero, List.getElem_cons_succ, List.setIfInBounds_toArray, List.set_cons_zero, List.set_cons_succ])
    (refine wpAnyH_ready (rs := [0, 8]) (by kernel_rfl) (by simp) ?_; refine AllReadyH.cons (o := _) rfl (fun K hK => ?_) (AllReadyH.cons (o := _) rfl (fun K hK => ?_) AllReadyH.nil))
    · go_simp
      (refine hK.out _ _ hHeld (fun hHeld2 => ?_); clear hK K hHeld; have hHeld := hHeld2; clear hHeld2; try simp only [Act.put, List.getElem_toArray, List.getElem_cons_zero, List.getElem_cons_succ, List.setIfInBounds_toArray, List.set_cons_zero, List.set_cons_succ])
      (refine wpAnyH_ready (rs := [8]) (by kernel_rfl) (by simp) ?_; refine AllReadyH.cons (o := _) rfl (fun K hK => ?_) AllReadyH.nil; go_simp)
      with_reducible refine (CC.out _).mono ?_
      rintro e w3 ⟨rfl, hb3'⟩
      have hb3 := drew_below hb3'; clear hb3'
      have hBx3 := (hb3.block E (lt_of_block HF.out)).trans HF.out
      have hc3 : w3.cell? ⟨E, 0, none⟩ = some (.slice A5 pre.length c5) := cell_of_row w3 E 0 _ _ _ hBx3
      have hsz3 := hb3.size
      have hB3l := lt_of_block hBx3
      (refine hK.out _ _ (hkx.trans (Kx.of_below (hb3.mono hz))) (fun hHeld2 => ?_); clear hK K hHeld; have hHeld := hHeld2; clear hHeld2; try simp only [Act.put, List.getElem_toArray, List.getElem_cons_zero, List.getElem_cons_succ, List.setIfInBounds_toArray, List.set_cons_zero, List.set_cons_succ])
      (refine wpAnyH_ready (rs := [9]) (by kernel_rfl) (by simp) ?_; refine AllReadyH.cons (o := _) rfl (fun K hK => ?_) AllReadyH.nil; go_simp)
      (refine hK.out _ _ (Kx.trans hHeld (Kx.of_below ((Below.refl _ w3).alloc (by omega) _))) (fun hHeld2 => ?_); clear hK K hHeld; have hHeld := hHeld2; clear hHeld2; try simp only [Act.put, List.getElem_toArray, List.getElem_cons_zero, List.getElem_cons_succ, List.setIfInBounds_toArray, List.set_cons_zero, List.set_cons_succ])
      (refine wpAnyH_ready (rs := [10]) (by kernel_rfl) (by simp) ?_; refine AllReadyH.cons (o := _) rfl (fun K hK => ?_) AllReadyH.nil)
      refine step_appB rfl (.tmp 54) (.tmp 63) 22 rfl Tryd.underlying22 info_str rfl (by decide) (E + 2) (.slice A5 pre.length c5) pre.length 1 _ w3 #[.string (mkB y)] rfl (by simp [Value.oneCell']) rfl rfl rfl (own_below HOWN.out hb3 (Nat.le_refl _)) (by omega) (by omega) (by omega) (by decide) ?_
      intro A6 c6 w6 hown6 hb6 hg6
      obtain ⟨e1, e2, e3⟩ := app_done HF.out t23 HOWN.out hz hb3 hg6
      have hc6 : w6.cell? ⟨E, 0, none⟩ = some (.slice A5 pre.length c5) := cell_of_row w6 E 0 _ _ _ e1
      have hf6 := free_blk e1 0
      have K6' := Lib.hid (hkx.trans (Kx.of_below e3))
      have D6 := Lib.hid (hbel.trans (e3.mono (by omega)))
      (refine hK.out _ _ K6'.out (fun hHeld2 => ?_); clear hK K hHeld; have hHeld := hHeld2; clear hHeld2; try simp only [Act.put, List.getElem_toArray, List.getElem_cons_zero, List.getElem_cons_succ, List.setIfInBounds_toArray, List.set_cons_zero, List.set_cons_succ])
      (refine wpAnyH_ready (rs := [11]) (by kernel_rfl) (by simp) ?_; refine AllReadyH.cons (o := _) rfl (fun K hK => ?_) AllReadyH.nil; go_simp)
      (refine hK.out _ _ (K6'.out.set 0 _) (fun hHeld2 => ?_); clear hK K hHeld; have hHeld := hHeld2; clear hHeld2; try simp only [Act.put, List.getElem_toArray, List.getElem_cons_zero, List.getElem_cons_succ, List.setIfInBounds_toArray, List.set_cons_zero, List.set_cons_succ])
      (refine wpAnyH_done (by kernel_rfl) ?_ _; refine NoPanic.normal ?_)
      clear hHeld
      refine ⟨e2.trans (KeepsOthers.setCell _ _ _), trivial, ⟨⟨_, row_put e1 _, ?_⟩, K6'.out.set 0 _, D6.out.setCell (by show B ≤ E; omega) _, ?_⟩⟩
      · rw [PS.out, List.length_append]; exact own_set e1 t23 hown6 0 _
      · exact Nat.le_trans (show E + 2 ≤ w6.heap.size from Nat.le_trans (Nat.le_trans hz hsz3) hb6.size) (KeepsWalks.setCell w6 ⟨E, 0, none⟩ (.slice A6 (pre.length + 1) c6)).size
    · go_simp
      with_reducible refine (CC.out _).mono ?_
      rintro e w3 ⟨rfl, hb3'⟩
      have hb3 := drew_below hb3'; clear hb3'
      have hBx3 := (hb3.block E (lt_of_block HF.out)).trans HF.out
      have hc3 : w3.cell? ⟨E, 0, none⟩ = some (.slice A5 pre.length c5) := cell_of_row w3 E 0 _ _ _ hBx3
      have hsz3 := hb3.size
      have hB3l := lt_of_block hBx3
      (refine hK.out _ _ (hkx.trans (Kx.of_below (hb3.mono hz))) (fun hHeld2 => ?_); clear hK K hHeld; have hHeld := hHeld2; clear hHeld2; try simp only [Act.put, List.getElem_toArray, List.getElem_cons_zero, List.getElem_cons_succ, List.setIfInBounds_toArray, List.set_cons_zero, List.set_cons_succ])
      (refine wpAnyH_ready (rs := [0, 9]) (by kernel_rfl) (by simp) ?_; refine AllReadyH.cons (o := _) rfl (fun K hK => ?_) (AllReadyH.cons (o := _) rfl (fun K hK => ?_) AllReadyH.nil))
      · go_simp
        (refine hK.out _ _ hHeld (fun hHeld2 => ?_); clear hK K hHeld; have hHeld := hHeld2; clear hHeld2; try simp only [Act.put, List.getElem_toArray, List.getElem_cons_zero, List.getElem_cons_succ, List.setIfInBounds_toArray, List.set_cons_zero, List.set_cons_succ])
        (refine wpAnyH_ready (rs := [9]) (by kernel_rfl) (by simp) ?_; refine AllReadyH.cons (o := _) rfl (fun K hK => ?_) AllReadyH.nil; go_simp)
        (refine hK.out _ _ (Kx.trans hHeld (Kx.of_below ((Below.refl _ w3).alloc (by omega) _))) (fun hHeld2 => ?_); clear hK K hHeld; have hHeld := hHeld2; clear hHeld2; try simp only [Act.put, List.getElem_toArray, List.getElem_cons_zero, List.getElem_cons_succ, List.setIfInBounds_toArray, List.set_cons_zero, List.set_cons_succ])
        (refine wpAnyH_ready (rs := [10]) (by kernel_rfl) (by simp) ?_; refine AllReadyH.cons (o := _) rfl (fun K hK => ?_) AllReadyH.nil)
        refine step_appB rfl (.tmp 54) (.tmp 63) 22 rfl Tryd.underlying22 info_str rfl (by decide) (E + 2) (.slice A5 pre.length c5) pre.length 1 _ w3 #[.string (mkB y)] rfl (by simp [Value.oneCell']) rfl rfl rfl (own_below HOWN.out hb3 (Nat.le_refl _)) (by omega) (by omega) (by omega) (by decide) ?_
        intro A6 c6 w6 hown6 hb6 hg6
        obtain ⟨e1, e2, e3⟩ := app_done HF.out t23 HOWN.out hz hb3 hg6
        have hc6 : w6.cell? ⟨E, 0, none⟩ = some (.slice A5 pre.length c5) := cell_of_row w6 E 0 _ _ _ e1
        have hf6 := free_blk e1 0
        have K6' := Lib.hid (hkx.trans (Kx.of_below e3))
        have D6 := Lib.hid (hbel.trans (e3.mono (by omega)))
        (refine hK.out _ _ K6'.out (fun hHeld2 => ?_); clear hK K hHeld; have hHeld := hHeld2; clear hHeld2; try simp only [Act.put, List.getElem_toArray, List.getElem_cons_zero, List.getElem_cons_succ, List.setIfInBounds_toArray, List.set_cons_zero, List.set_cons_succ])
        (refine wpAnyH_ready (rs := [11]) (by kernel_rfl) (by simp) ?_; refine AllReadyH.cons (o := _) rfl (fun K hK => ?_) AllReadyH.nil; go_simp)
        (refine hK.out _ _ (K6'.out.set 0 _) (fun hHeld2 => ?_); clear hK K hHeld; have hHeld := hHeld2; clear hHeld2; try simp only [Act.put, List.getElem_toArray, List.getElem_cons_zero, List.getElem_cons_succ, List.setIfInBounds_toArray, List.set_cons_zero, List.set_cons_succ])
        (refine wpAnyH_done (by kernel_rfl) ?_ _; refine NoPanic.normal ?_)
        clear hHeld
        refine ⟨e2.trans (KeepsOthers.setCell _ _ _), trivial, ⟨⟨_, row_put e1 _, ?_⟩, K6'.out.set 0 _, D6.out.setCell (by show B ≤ E; omega) _, ?_⟩⟩
        · rw [PS.out, List.length_append]; exact own_set e1 t23 hown6 0 _
        · exact Nat.le_trans (show E + 2 ≤ w6.heap.size from Nat.le_trans (Nat.le_trans hz hsz3) hb6.size) (KeepsWalks.setCell w6 ⟨E, 0, none⟩ (.slice A6 (pre.length + 1) c6)).size
      · go_simp
        (refine hK.out _ _ (Kx.trans hHeld (Kx.of_below ((Below.refl _ w3).alloc (by omega) _))) (fun hHeld2 => ?_); clear hK K hHeld; have hHeld := hHeld2; clear hHeld2; try simp only [Act.put, List.getElem_toArray, List.getElem_cons_zero, List.getElem_cons_succ, List.setIfInBounds_toArray, List.set_cons_zero, List.set_cons_succ])
        (refine wpAnyH_ready (rs := [0]) (by kernel_rfl) (by simp) ?_; refine AllReadyH.cons (o := _) rfl (fun K hK => ?_) AllReadyH.nil; go_simp)
        (refine hK.out _ _ hHeld (fun hHeld2 => ?_); clear hK K hHeld; have hHeld := hHeld2; clear hHeld2; try simp only [Act.put, List.getElem_toArray, List.getElem_cons_zero, List.getElem_cons_succ, List.setIfInBounds_toArray, List.set_cons_zero, List.set_cons_succ])
        (refine wpAnyH_ready (rs := [10]) (by kernel_rfl) (by simp) ?_; refine AllReadyH.cons (o := _) rfl (fun K hK => ?_) AllReadyH.nil)
        refine step_appB rfl (.tmp 54) (.tmp 63) 22 rfl Tryd.underlying22 info_str rfl (by decide) (E + 2) (.slice A5 pre.length c5) pre.length 1 _ w3 #[.string (mkB y)] rfl (by simp [Value.oneCell']) rfl rfl rfl (own_below HOWN.out hb3 (Nat.le_refl _)) (by omega) (by omega) (by omega) (by decide) ?_
        intro A6 c6 w6 hown6 hb6 hg6
        obtain ⟨e1, e2, e3⟩ := app_done HF.out t23 HOWN.out hz hb3 hg6
        have hc6 : w6.cell? ⟨E, 0, none⟩ = some (.slice A5 pre.length c5) := cell_of_row w6 E 0 _ _ _ e1
        have hf6 := free_blk e1 0
        have K6' := Lib.hid (hkx.trans (Kx.of_below e3))
        have D6 := Lib.hid (hbel.trans (e3.mono (by omega)))
        (refine hK.out _ _ K6'.out (fun hHeld2 => ?_); clear hK K hHeld; have hHeld := hHeld2; clear hHeld2; try simp only [Act.put, List.getElem_toArray, List.getElem_cons_zero, List.getElem_cons_succ, List.setIfInBounds_toArray, List.set_cons_zero, List.set_cons_succ])
        (refine wpAnyH_ready (rs := [11]) (by kernel_rfl) (by simp) ?_; refine AllReadyH.cons (o := _) rfl (fun K hK => ?_) AllReadyH.nil; go_simp)
        (refine hK.out _ _ (K6'.out.set 0 _) (fun hHeld2 => ?_); clear hK K hHeld; have hHeld := hHeld2; clear hHeld2; try simp only [Act.put, List.getElem_toArray, List.getElem_cons_zero, List.getElem_cons_succ, List.setIfInBounds_toArray, List.set_cons_zero, List.set_cons_succ])
        (refine wpAnyH_done (by kernel_rfl) ?_ _; refine NoPanic.normal ?_)
        clear hHeld
        refine ⟨e2.trans (KeepsOthers.setCell _ _ _), trivial, ⟨⟨_, row_put e1 _, ?_⟩, K6'.out.set 0 _, D6.out.setCell (by show B ≤ E; omega) _, ?_⟩⟩
        · rw [PS.out, List.length_append]; exact own_set e1 t23 hown6 0 _
        · exact Nat.le_trans (show E + 2 ≤ w6.heap.size from Nat.le_trans (Nat.le_trans hz hsz3) hb6.size) (KeepsWalks.setCell w6 ⟨E, 0, none⟩ (.slice A6 (pre.length + 1) c6)).size
  case done =>
    rintro D ys W hD hys ⟨⟨v, hF, hown⟩, hkx, hbel, hz⟩ hdef
    have hBE : B < E := by have := HE.out; omega
    have PA := Lib.hid (v_all m.data.toList sig hys)
    have PL : Hid (ys.length = 18) := Lib.hid (up_len hys)
    rw [PA.out, PL.out] at hown
    obtain ⟨A5, c5, rfl, hc5, hc6⟩ := own_form hown
    have hc0 : W.cell? ⟨E, 0, none⟩ = some (.slice A5 18 c5) := cell_of_row W E 0 _ _ _ hF
    have OA := Lib.hid (of_any A5 18 c5 (Sl.vends m.data.toList sig) W (Sl.vends_len _ _).symm (by rw [Sl.vends_len]; decide) (vends_size Z1.out) (HT.out.keep (HW.out ▸ hbel)) (Rd.of_own hown))
    have GB := Lib.hid ((hkx.2 B (by omega) (by omega)).trans F3.out)
    have HDEF := Lib.hid hdef
    have hDlt : D < W.heap.size := (Array.getElem?_eq_some_iff.1 hdef).1
    have VF : Hid (Sl.climb (path.drop 0) (j / 2 ^ 0) (Dg.sumL (Dg.joined (Sl.vends m.data.toList sig))) = Sl.verF m.data.toList j sig path) := Lib.hid (by simp [Sl.verF, Sl.vkT])
    have SZ : (Dg.sumL (Dg.joined (Sl.vends m.data.toList sig))).length ≤ 300 := by rw [isD_len (Dg.sumL_isD _)]; decide
    generalize Dg.sumL (Dg.joined (Sl.vends m.data.toList sig)) = a0 at *
    obtain ⟨VV, hVV⟩ : ∃ V, Sl.verF m.data.toList j sig path = V := ⟨_, rfl⟩
    rw [hVV] at VF
    have HV := Lib.hid hVV; clear hVV
    clear hown hF hdef hys PA
    go_wp2_with fail
    refine OA.out.mono ?_
    rintro e w5 ⟨rfl, hb5⟩
    have G5 := Lib.hid ((hb5.block B (lt_of_block GB.out)).trans GB.out)
    have D5 := Lib.hid ((hb5.block D hDlt).trans HDEF.out)
    have bel5 := Lib.hid (hbel.trans (hb5.mono (by omega)))
    have hD5 : D < w5.heap.size := Nat.lt_of_lt_of_le hDlt hb5.size
    have hB5 : B < w5.heap.size := lt_of_block G5.out
    have c50 := (cells3 G5.out).2.2
    clear hb5 OA GB HDEF
    have ST : Hid (Below w5.heap.size w5 w5) := Lib.hid (Below.refl _ _)
    go_wp2_with fail
    go_loopw [12, 70] (fun s i wr => ∃ (k : Nat) (a : List UInt8), k ≤ n2 ∧ i = .int .i64 k ∧ s = .string (mkB a) ∧ a.length ≤ 300 ∧ Hid (Sl.climb (path.drop k) (j / 2 ^ k) a = VV) ∧ Hid (Below w5.heap.size w5 wr)) (fun _ i _ => n2 - (intOf i).toNat)
    case atStart => exact ⟨0, a0, by omega, rfl, rfl, SZ, VF, ST⟩
    case round =>
      clear ST VF c50
      obtain ⟨k, a, hk, rfl, rfl, hsa, hcl, hbl⟩ := hrel
      have bw := Lib.hid (bel5.out.trans (hbl.out.mono (by omega)))
      have c0 := (cells3 ((hbl.out.block B hB5).trans G5.out)).1
      by_cases hlt : k < n2
      · have hkp : k < path.length := by have := N2.out; omega
        obtain ⟨b, off, eA, hb, hcell⟩ := R2.out (by rw [sv_len]; omega)
        subst eA
        have hel := (bw.out.cell (p := ⟨b, off + k, none⟩) (by rw [HW.out] at hb; exact hb)).trans (hcell k _ (getD_at hkp))
        have CD : Hid (Sl.climb (path.drop (k + 1)) (j / 2 ^ (k + 1)) (Dg.sumL (pairB a (path.getD k []) (decide (j / 2 ^ k % 2 = 1)))) = VV) := Lib.hid (by rw [← hcl.out]; exact climb_drop hkp)
        have hpz : (path.getD k []).length ≤ 300 := by rw [List.getD_eq_getElem?_getD, List.getElem?_eq_getElem hkp]; exact Z2.out _ (List.getElem_mem hkp)
        have NA := Lib.hid (fun bk => node_any (mkB a) (mkB (path.getD k [])) bk wr (by rw [mkB_size]; exact hsa) (by rw [mkB_size]; exact hpz) (HT.out.keep (HW.out ▸ bw.out)))
        simp only [mkB_list] at NA
        clear hcell hpz hcl
        generalize path.getD k [] = o at *
        have ik0 : (0 : Int) ≤ (k : Int) := by omega
        have ik1 : (k : Int) < (n2 : Int) := by omega
        have ik2 : (k : Int) < 64 := by omega
        have hbk := shr_bit (j := j) (k := k) (by have := K6.out; have := pow_le8 K2.out; have := Q2.out; omega)
        obtain ⟨bk, hbk2⟩ : ∃ b, decide (j / 2 ^ k % 2 = 1) = b := ⟨_, rfl⟩
        rw [hbk2] at hbk CD
        clear hbk2
        have SD : (Dg.sumL (pairB a o bk)).length ≤ 300 := by rw [isD_len (Dg.sumL_isD _)]; decide
        have NB := Lib.hid (NA.out bk)
        clear NA
        generalize Dg.sumL (pairB a o bk) = a' at *
        go_wp2_with fail
        with_reducible refine NB.out.mono ?_
        rintro e w6 ⟨rfl, hb6⟩
        have B6 := Lib.hid (hbl.out.trans (hb6.mono hbl.out.size)); clear hb6
        go_wp2_with fail
        exact ⟨⟨k + 1, a', hlt, by go_num, rfl, SD, CD, B6⟩, by simp [intOf]; omega⟩
      · obtain rfl : k = n2 := by omega
        have EA : a = VV := by
          have := hcl.out
          rw [List.drop_of_length_le (by have := N2.out; omega)] at this
          exact this
        subst EA
        have ec : ((mkB a).toList == pub.toList) = decide (a = pub.data.toList) := by
          rw [str_eq]
          exact decide_eq_decide.2 ⟨fun e => by rw [← e, mkB_list], fun e => by rw [e, mkB_of]⟩
        have DE := Lib.hid ((hbl.out.block D hD5).trans D5.out)
        have BE : Hid (Below w.heap.size w (wr.putObj D (.deferred none))) := Lib.hid (by
          rw [HW.out]
          exact bw.out.grown (grownBy_putObj' _ D (.deferred none)) (by have := bw.out.size; have := HW.out; omega) (fun k e => by cases e; omega))
        obtain ⟨res, hres⟩ : ∃ b, decide (a = pub.data.toList) = b := ⟨_, rfl⟩
        rw [hres] at ec
        have HR := Lib.hid hres; clear hres
        have d9 : ¬ (k : Int) < (k : Int) := by omega
        go_wp2_with fail
        refine ⟨by simp, .inl ⟨_, _, rfl, run_takeDeferred DE.out, ?_⟩⟩
        exact ⟨_, results_tmp rfl _ _ _, (by show Ending.returned (Value.bool res) = _; rw [HV.out, HR.out]), BE.out⟩
  case stop =>
    rintro D c pre W _ _ h _
    exact h.elim
end Go.Proofs.YthceonkdmcidcaaDoor
