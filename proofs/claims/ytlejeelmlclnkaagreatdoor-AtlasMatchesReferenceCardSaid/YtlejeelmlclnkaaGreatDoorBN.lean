/- WALKS: slices.Delete of one object. -/
import Derived.Test.YtlejeelmlclnkaaGreatDoorBM
import Derived.Test.YtlejeelmlclnkaaGreatDoorWD
set_option linter.unusedSimpArgs false
set_option linter.unusedVariables false
namespace Go.Proofs.YtlejeelmlclnkaaGreatDoor
open Go.RowKit

theorem step_callB {P : Program} {ops : Array Oper} {o : Oper} {a : Act} {w : World} {K : Act → World → Prop} {Q : Exit → Act → World → Prop} {E : Prop} (hgd : o.guard = none) (s x : Operand) (t : TypeId)
    (ho : o.op = .call { callee := .builtin .append, args := #[s, x], argTypes := #[t, t] }) (vs vx : Value) (hs : a.eval s = vs) (hx : a.eval x = vx) {v' : Value} {w' : World}
    (hr : (Builtin.append_ #[t, t] o.type #[vs, vx]).run P w = .ok v' w') (h : K (a.put o.dst v') w') :
    if Region.wanted o (yielded ops a.tmps) = true then Oper.wp P o a w K Q else E := by
  have hw : Region.wanted o (yielded ops a.tmps) = true := by simp [Region.wanted, hgd]
  rw [if_pos hw]
  unfold Oper.wp
  simp [execOp, ho, resolve, invoke, builtin, hs, hx, hr, Result.andThen]
  exact h
theorem run_clearK {P : Program} (w : World) (t e ty : TypeId) (z : Value) (hz : ∀ u, (zeroValue e).run P u = .ok z u) (ht : P.underlying t = some (.slice e)) (g o c : Nat) (cur : List Value) (t' : TypeId) (hg : w.heap[g]? = some (.cells cur.toArray t' (0, 0)))
    (h1 : ∀ u ∈ (Builtin.zeroCells z.cells 1).toList, u.oneCell' = true) (hfit : o + (Builtin.zeroCells z.cells 1).toList.length ≤ cur.length) :
    (Builtin.clear_ #[t] ty #[.slice (some ⟨g, o, none⟩) 1 c]).run P w = .ok (.tuple #[]) (w.setRow g (splice cur o (Builtin.zeroCells z.cells 1).toList).toArray) := by
  have hst := run_storeCells_at P g o t' (Builtin.zeroCells z.cells 1).toList 0 cur.toArray w hg (by simpa using hfit) h1
  simp only [Nat.add_zero] at hst
  simp [Builtin.clear_, run_underlying ht, hz, hst, splice]
theorem take_splice1 {α : Type} (L zs : List α) (o m : Nat) (hm : m ≤ o) (ho : o ≤ L.length) : (splice L o zs).take m = L.take m := by
  unfold splice
  rw [List.take_append_of_le_length (by simp; omega), List.take_take, Nat.min_eq_left hm]
theorem take_splice0 {α : Type} (L D : List α) (a : Nat) (h : a + D.length ≤ L.length) : (splice L a D).take (a + D.length) = L.take a ++ D := by
  unfold splice
  rw [← List.append_assoc]
  exact List.take_left' (by simp; omega)
theorem zOb (w : World) : (zeroValue 43).run Tryz.prog w = .ok (.agg #[.string .empty, .int .i64 0, .int .i64 0, .int .i64 0, .slice none 0 0, .slice none 0 0]) w := by kernel_rfl
theorem zero_list : (Builtin.zeroCells (Value.agg #[.string .empty, .int .i64 0, .int .i64 0, .int .i64 0, .slice none 0 0, .slice none 0 0]).cells 1).toList = [.string .empty, .int .i64 0, .int .i64 0, .int .i64 0, .slice none 0 0, .slice none 0 0] := by kernel_rfl
theorem zero_one : ∀ u ∈ (Builtin.zeroCells (Value.agg #[.string .empty, .int .i64 0, .int .i64 0, .int .i64 0, .slice none 0 0, .slice none 0 0]).cells 1).toList, u.oneCell' = true := by
  rw [zero_list]
  intro u hu
  simp only [List.mem_cons, List.not_mem_nil, or_false] at hu
  rcases hu with rfl | rfl | rfl | rfl | rfl | rfl <;> rfl
def DelPost (w : World) (base : Nat) (l : List RO) (i : Nat) (e : Ending) (w' : World) : Prop :=
  ∃ v, e = .returned v ∧ w'.ownsRow base 43 6 v (l.length - 1) (rosC (l.take i ++ l.drop (i + 1))) ∧ Below base w w'
set_option maxHeartbeats 4000000 in
set_option maxRecDepth 100000 in
theorem delete_any (base i n : Nat) (v : Value) (l : List RO) (w : World) (hn : n = l.length) (hi : i < n) (hl : n ≤ 100000) (hown : w.ownsRow base 43 6 v n (rosC l)) (ho : ∀ r ∈ l, ObIs w r) :
    Calls Tryz.prog 69 #[v, .int .i64 (i : Int), .int .i64 ((i : Int) + 1)] w (DelPost w base l i) := by
  obtain ⟨k, rfl⟩ : ∃ k, n = k + 1 := ⟨n - 1, by omega⟩
  have HO := Lib.hid (ros_one ho)
  have HN := Lib.hid hn
  have LL : Hid ((rosC l).length = (k + 1) * 6) := Lib.hid (by rw [rosC_len, hn])
  have IPH : Hid (∀ (v' : Value) (w' : World), w'.ownsRow base 43 6 v' k (rosC (l.take i ++ l.drop (i + 1))) → Below base w w' → DelPost w base l i (.returned v') w') := Lib.hid (fun v' w' h1 h2 => ⟨v', rfl, by rw [← HN.out]; exact h1, h2⟩)
  clear ho hn
  generalize DelPost w base l i = QQ at *
  rcases hown.2 with ⟨rfl, h0⟩ | ⟨g, c, cur, rfl, hg, hh, hnc, hcm, hcs, htk⟩
  · omega
  · have HG : Hid (w.drew.heap[g]? = some (.cells cur 43 (0, 0))) := Lib.hid hh
    have TK := Lib.hid htk
    have cm : (c : Int) ≤ 9223372036854775807 := by unfold maxLen at hcm; omega
    clear hown hh htk
    obtain ⟨i0, hi0, hz0, hzs, hzb⟩ := info_parts info_ob
    have CL : cur.toList.length = c * 6 := by rw [Array.length_toList, hcs]
    have DL : Hid (((rosC l).drop ((i + 1) * 6)).length = (k - i) * 6) := Lib.hid (by rw [List.length_drop, LL.out, ← Nat.sub_mul]; congr 1; omega)
    have DO : Hid (∀ u ∈ (rosC l).drop ((i + 1) * 6), u.oneCell' = true) := Lib.hid (fun u hu => HO.out u (List.mem_of_mem_drop hu))
    have SRC : Hid (∀ (a : Addr), (k ≠ i → a = ⟨g, (i + 1) * 6, none⟩) → ∀ j u, ((rosC l).drop ((i + 1) * 6))[j]? = some u → w.drew.cell? (a.add j) = some u) := Lib.hid (fun a ha j u hu => by
      have hj := (List.getElem?_eq_some_iff.1 hu).1
      rw [DL.out] at hj
      rw [ha (by omega), Addr.add_lit]
      rw [List.getElem?_drop, ← TK.out, List.getElem?_take] at hu
      split at hu
      · exact (cell_of_row w.drew g ((i + 1) * 6 + j) _ _ _ HG.out).trans (by simpa using hu)
      · cases hu)
    have TI : Hid (cur.toList.take (i * 6) = (rosC l).take (i * 6)) := Lib.hid (by rw [← TK.out, List.take_take, Nat.min_eq_left (by omega)])
    have FIT1 : i * 6 + ((rosC l).drop ((i + 1) * 6)).length ≤ cur.toList.length := by rw [DL.out, CL]; omega
    have hrun : ∀ (a : Addr) (cc : Nat) ty, (k ≠ i → a = ⟨g, (i + 1) * 6, none⟩) → (Builtin.append_ #[22, 22] ty #[.slice (some ⟨g, 0, none⟩) i c, .slice (some a) (k - i) cc]).run Tryz.prog w.drew =
        .ok (.slice (some ⟨g, 0, none⟩) (i + (k - i)) c) (w.drew.setRow g (splice cur.toList (i * 6) ((rosC l).drop ((i + 1) * 6))).toArray) := fun a cc ty ha => by
      have := run_append_room (P := Tryz.prog) w.drew 22 ty 43 i0 Tryz.underlying22 hi0 g i c cur HG.out a (k - i) cc ((rosC l).drop ((i + 1) * 6)) (by rw [hzs]; exact DL.out) (SRC.out a ha) DO.out (by omega) (by rw [hzs]; simpa using FIT1)
      rw [hzs] at this
      rw [this]
      simp [splice]
    have h7 := setRow_heap w.drew g _ (splice cur.toList (i * 6) ((rosC l).drop ((i + 1) * 6))).toArray _ _ HG.out
    have b7 : Below base w (w.drew.setRow g (splice cur.toList (i * 6) ((rosC l).drop ((i + 1) * 6))).toArray) := below_setRow (belowDD (Below.refl _ _)) hg _
    have HD : Hid ((rosC l).take (i * 6) ++ (rosC l).drop ((i + 1) * 6) = rosC (l.take i ++ l.drop (i + 1))) := Lib.hid (by rw [rosC_app, rosC_take, rosC_drop])
    have eN : i + (k - i) = k := by omega
    have T7 : Hid ((splice cur.toList (i * 6) ((rosC l).drop ((i + 1) * 6))).take (k * 6) = rosC (l.take i ++ l.drop (i + 1))) := Lib.hid (by
      have e : k * 6 = i * 6 + ((rosC l).drop ((i + 1) * 6)).length := by rw [DL.out]; omega
      rw [e, take_splice0 _ _ _ FIT1, TI.out, HD.out])
    have L7 : Hid ((splice cur.toList (i * 6) ((rosC l).drop ((i + 1) * 6))).length = c * 6) := Lib.hid (by rw [length_splice _ _ _ FIT1, CL])
    rw [eN] at hrun
    generalize w.drew.setRow g (splice cur.toList (i * 6) ((rosC l).drop ((i + 1) * 6))).toArray = w7 at *
    generalize splice cur.toList (i * 6) ((rosC l).drop ((i + 1) * 6)) = S1 at *
    have ZL : (Builtin.zeroCells (Value.agg #[.string .empty, .int .i64 0, .int .i64 0, .int .i64 0, .slice none 0 0, .slice none 0 0]).cells 1).toList.length = 6 := by simp [Builtin.zeroCells, Value.cells]
    have hcl := fun ty cc => run_clearK (P := Tryz.prog) w7 22 43 ty _ zOb Tryz.underlying22 g (k * 6) cc S1 43 h7 zero_one (by rw [ZL, L7.out]; omega)
    have h8 := setRow_heap w7 g _ (splice S1 (k * 6) (Builtin.zeroCells (Value.agg #[.string .empty, .int .i64 0, .int .i64 0, .int .i64 0, .slice none 0 0, .slice none 0 0]).cells 1).toList).toArray _ _ h7
    have b8 := below_setRow b7 hg (splice S1 (k * 6) (Builtin.zeroCells (Value.agg #[.string .empty, .int .i64 0, .int .i64 0, .int .i64 0, .slice none 0 0, .slice none 0 0]).cells 1).toList).toArray
    have T8 : Hid ((splice S1 (k * 6) (Builtin.zeroCells (Value.agg #[.string .empty, .int .i64 0, .int .i64 0, .int .i64 0, .slice none 0 0, .slice none 0 0]).cells 1).toList).take (k * 6) = rosC (l.take i ++ l.drop (i + 1))) := Lib.hid (by rw [take_splice1 _ _ _ _ (Nat.le_refl _) (by rw [L7.out]; omega), T7.out])
    have L8 : Hid ((splice S1 (k * 6) (Builtin.zeroCells (Value.agg #[.string .empty, .int .i64 0, .int .i64 0, .int .i64 0, .slice none 0 0, .slice none 0 0]).cells 1).toList).length = c * 6) := Lib.hid (by rw [length_splice _ _ _ (by rw [ZL, L7.out]; omega), L7.out])
    generalize w7.setRow g (splice S1 (k * 6) (Builtin.zeroCells (Value.agg #[.string .empty, .int .i64 0, .int .i64 0, .int .i64 0, .slice none 0 0, .slice none 0 0]).cells 1).toList).toArray = w8 at *
    generalize splice S1 (k * 6) (Builtin.zeroCells (Value.agg #[.string .empty, .int .i64 0, .int .i64 0, .int .i64 0, .slice none 0 0, .slice none 0 0]).cells 1).toList = S2 at *
    have HRUN := Lib.hid hrun
    have HCL := Lib.hid hcl
    have H8 := Lib.hid h8
    have B8 := Lib.hid b8
    clear hrun hcl h7 b7 h8 b8 hi0 hz0 hzs hzb ZL FIT1 SRC TK HG CL hcs
    have y1 : (0 : Int) ≤ (i : Int) + 1 := by omega
    have y2 : (i : Int) + 1 ≤ (k : Int) + 1 := by omega
    have y3 : (i : Int) ≤ (k : Int) + 1 := by omega
    have y4 : (i : Int) ≤ (c : Int) := by omega
    have y5 : (k : Int) + 1 ≤ (c : Int) := by omega
    have y6 : (i : Int) ≤ (i : Int) + 1 := by omega
    have y7 : ((i : Int) == (i : Int) + 1) = false := by simp; omega
    have y8 : (k : Int) ≤ (k : Int) + 1 := by omega
    have y9 : ¬ (c = k) := by omega
    have y10 : (0 : Int) ≤ (k : Int) := by omega
    have y11 : (i : Int) ≤ (k : Int) := by omega
    have y13 : (k : Int) ≤ (c : Int) := by omega
    have y12 : ¬ (c = i) := by omega
    go_enter Tryz.func69, Tryz.ntmps69
    go_wp2_with fail
    rcases Classical.propComplete (c = i + 1) with z | z
    · have hc : Hid (c = i + 1) := Lib.hid (of_eq_true z)
      (refine wp_region_noPanic ?_; refine wp_region_held_drew (S := (fun _ => True)) (by kernel_rfl) ?_ (fun hHeld => ?_); exact trivial)
      (refine tkW 0 ?_; try simp only [gmS])
      (refine tkW 1 ?_; try simp only [gmS])
      (refine tkW 2 ?_; try simp only [gmS])
      (refine tkW 3 ?_; try simp only [gmS])
      (refine tkW 4 ?_; try simp only [gmS])
      (refine tkW 5 ?_; try simp only [gmS])
      (refine rdW 6 (fun K hK => ?_))
      refine step_callB rfl (.tmp 22) (.tmp 25) 22 rfl _ _ rfl rfl (HRUN.out _ _ _ (by have := hc.out; omega)) ?_
      (refine hK.out _ _ trivial (fun hHeld2 => ?_); clear hK K hHeld; have hHeld := hHeld2; clear hHeld2; try simp only [gmS])
      (refine tkW 7 ?_; try simp only [gmS])
      (refine wpAnyH_done (by kernel_rfl) ?_ _; refine NoPanic.normal ?_)
      clear hHeld
      have HCL2 := HCL.out
      go_wp2_with fail
      refine IPH.out _ _ ⟨?_, .inr ⟨g, c, _, rfl, hg, H8.out, by omega, hcm, ?_, ?_⟩⟩ B8.out
      · rw [rosC_len, List.length_append, List.length_take, List.length_drop, ← HN.out]; omega
      · rw [List.size_toArray, L8.out]
      · rw [List.toList_toArray]; exact T8.out
    · have hc : Hid (¬ c = i + 1) := Lib.hid (of_eq_false z)
      (refine wp_region_noPanic ?_; refine wp_region_held_drew (S := (fun _ => True)) (by kernel_rfl) ?_ (fun hHeld => ?_); exact trivial)
      (refine tkW 0 ?_; try simp only [gmS])
      (refine tkW 1 ?_; try simp only [gmS])
      (refine tkW 2 ?_; try simp only [gmS])
      (refine tkW 3 ?_; try simp only [gmS])
      (refine tkW 4 ?_; try simp only [gmS])
      (refine tkW 5 ?_; try simp only [gmS])
      (refine rdW 6 (fun K hK => ?_))
      refine step_callB rfl (.tmp 22) (.tmp 25) 22 rfl _ _ rfl rfl (HRUN.out _ _ _ (by exact fun _ => rfl)) ?_
      (refine hK.out _ _ trivial (fun hHeld2 => ?_); clear hK K hHeld; have hHeld := hHeld2; clear hHeld2; try simp only [gmS])
      (refine tkW 7 ?_; try simp only [gmS])
      (refine wpAnyH_done (by kernel_rfl) ?_ _; refine NoPanic.normal ?_)
      clear hHeld
      have HCL2 := HCL.out
      go_wp2_with fail
      refine IPH.out _ _ ⟨?_, .inr ⟨g, c, _, rfl, hg, H8.out, by omega, hcm, ?_, ?_⟩⟩ B8.out
      · rw [rosC_len, List.length_append, List.length_take, List.length_drop, ← HN.out]; omega
      · rw [List.size_toArray, L8.out]
      · rw [List.toList_toArray]; exact T8.out
end Go.Proofs.YtlejeelmlclnkaaGreatDoor
