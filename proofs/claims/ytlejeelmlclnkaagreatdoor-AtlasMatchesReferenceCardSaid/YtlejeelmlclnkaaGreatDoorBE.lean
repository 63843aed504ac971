/- WORDS AND WALKS: objects in memory; object.Same. -/
import Derived.Test.YtlejeelmlclnkaaGreatDoorBD
set_option linter.unusedSimpArgs false
set_option linter.unusedVariables false
namespace Go.Proofs.YtlejeelmlclnkaaGreatDoor
open Go.RowKit

/-- a value that is a slice which reads as cells -/
def SlIs (w : World) (v : Value) (n : Nat) (xs : List Value) : Prop := ∃ A c, v = .slice A n c ∧ Rd w A xs
theorem SlIs.below {w w' : World} {v : Value} {n : Nat} {xs : List Value} (h : SlIs w v n xs) (hb : Below w.heap.size w w') : SlIs w' v n xs := by
  obtain ⟨A, c, e, h⟩ := h; exact ⟨A, c, e, h.below hb⟩
/-- an object with its slices -/
structure RO where
  c : At.Ob
  rv : Value
  tv : Value
def roC (r : RO) : List Value := [.string (mkB r.c.id), .int .i64 r.c.kind, .int .i64 r.c.x, .int .i64 r.c.y, r.rv, r.tv]
def roA (r : RO) : Value := .agg #[.string (mkB r.c.id), .int .i64 r.c.kind, .int .i64 r.c.x, .int .i64 r.c.y, r.rv, r.tv]
def rosC (l : List RO) : List Value := l.flatMap roC
theorem rosC_len (l : List RO) : (rosC l).length = l.length * 6 := flat_len roC 6 (fun _ => rfl) l
theorem rosC_app (a b : List RO) : rosC (a ++ b) = rosC a ++ rosC b := by unfold rosC; rw [List.flatMap_append]
structure ObIs (w : World) (r : RO) : Prop where
  rs : SlIs w r.rv r.c.refs.length (strsC r.c.refs)
  ts : SlIs w r.tv r.c.tags.length (tagsC r.c.tags)
theorem ObIs.below {w w' : World} {r : RO} (h : ObIs w r) (hb : Below w.heap.size w w') : ObIs w' r := ⟨h.rs.below hb, h.ts.below hb⟩
/-- sizes for which the walks are done -/
structure ObSz (o : At.Ob) : Prop where
  id : o.id.length ≤ 1000000
  refs : o.refs.length ≤ 1000000
  ref : ∀ s ∈ o.refs, s.length ≤ 1000000
  tags : o.tags.length ≤ 1000000
  tag : ∀ t ∈ o.tags, t.1.length ≤ 9223372036854775807 ∧ t.2.length ≤ 9223372036854775807
theorem ros_at {w : World} {A : Option Addr} {l : List RO} (h : Rd w A (rosC l)) {k : Nat} (hk : k < l.length) :
    ∃ b off, A = some ⟨b, off, none⟩ ∧ b < w.heap.size ∧ w.cell? ⟨b, off + k * 6, none⟩ = some (.string (mkB l[k].c.id)) ∧ w.cell? ⟨b, off + k * 6 + 1, none⟩ = some (.int .i64 l[k].c.kind) ∧ w.cell? ⟨b, off + k * 6 + 2, none⟩ = some (.int .i64 l[k].c.x) ∧ w.cell? ⟨b, off + k * 6 + 3, none⟩ = some (.int .i64 l[k].c.y) ∧ w.cell? ⟨b, off + k * 6 + 4, none⟩ = some l[k].rv ∧ w.cell? ⟨b, off + k * 6 + 5, none⟩ = some l[k].tv := by
  obtain ⟨b, off, e, hb, hc⟩ := h (by rw [rosC_len]; omega)
  have g : ∀ f u, (roC l[k])[f]? = some u → w.cell? ⟨b, off + (k * 6 + f), none⟩ = some u := fun f u hu => hc (k * 6 + f) u (flat_get roC 6 (fun _ => rfl) hk hu)
  have a : ∀ f u, (roC l[k])[f]? = some u → w.cell? ⟨b, off + k * 6 + f, none⟩ = some u := fun f u hu => by have := g f u hu; rwa [← Nat.add_assoc] at this
  exact ⟨b, off, e, hb, g 0 _ rfl, a 1 _ rfl, a 2 _ rfl, a 3 _ rfl, a 4 _ rfl, a 5 _ rfl⟩
theorem info_ob : (Tryz.prog.info? 43).map (fun i => (i.zero, i.size, i.bytes)) = some (some (.agg #[.string .empty, .int .i64 0, .int .i64 0, .int .i64 0, .slice none 0 0, .slice none 0 0]), 6, 88) := by kernel_rfl
set_option maxHeartbeats 4000000 in
set_option maxRecDepth 100000 in
theorem same_any (r s : RO) (w : World) (h : ObIs w r) (k : ObIs w s) (hr : ObSz r.c) (hs : ObSz s.c) :
    Calls Tryz.prog 44 #[roA r, roA s] w fun e w' => e = .returned (.bool (At.sameO r.c s.c)) ∧ Below w.heap.size w w' := by
  obtain ⟨⟨A1, c1, v1, r1⟩, ⟨A2, c2, v2, r2⟩⟩ := h
  obtain ⟨⟨A3, c3, v3, r3⟩, ⟨A4, c4, v4, r4⟩⟩ := k
  have SO : Hid (At.sameO r.c s.c = (decide (r.c.id = s.c.id) && decide (r.c.kind = s.c.kind) && decide (r.c.x = s.c.x) && decide (r.c.y = s.c.y) && decide (r.c.refs = s.c.refs) && decide (r.c.tags = s.c.tags))) := Lib.hid rfl
  have BB : Below w.heap.size w ((w.alloc (.cells #[.string (mkB r.c.id), .int .i64 r.c.kind, .int .i64 r.c.x, .int .i64 r.c.y, r.rv, r.tv] 43)).alloc (.cells #[.string (mkB s.c.id), .int .i64 s.c.kind, .int .i64 s.c.x, .int .i64 s.c.y, s.rv, s.tv] 43)) := ((Below.refl _ _).alloc (Nat.le_refl _) _).alloc (by simp) _
  have ER : Hid (∀ u, Below w.heap.size w u → Calls Tryz.prog 84 #[.slice A1 r.c.refs.length c1, .slice A3 s.c.refs.length c3] u fun e w' => e = .returned (.bool (decide (r.c.refs = s.c.refs))) ∧ Below u.heap.size u w') := Lib.hid (fun u hu => eqs_any A1 A3 c1 c3 _ _ _ _ u rfl rfl hr.refs hs.refs (r1.below hu) (r3.below hu))
  have ET : Hid (∀ u, Below w.heap.size w u → Calls Tryz.prog 85 #[.slice A2 r.c.tags.length c2, .slice A4 s.c.tags.length c4] u fun e w' => e = .returned (.bool (decide (r.c.tags = s.c.tags))) ∧ Below u.heap.size u w') := Lib.hid (fun u hu => eqt_any A2 A4 c2 c4 _ _ _ _ u rfl rfl hr.tags hs.tags (r2.below hu) (r4.below hu))
  have t1 := mkB_tl r.c.id
  have t2 := mkB_tl s.c.id
  unfold roA
  rw [v1, v2, v3, v4] at *
  clear r1 r2 r3 r4 v1 v2 v3 v4 hr hs
  generalize At.sameO r.c s.c = R at *
  generalize decide (r.c.refs = s.c.refs) = dr at *
  generalize decide (r.c.tags = s.c.tags) = dt at *
  generalize r.c.refs.length = n1 at *
  generalize s.c.refs.length = n3 at *
  generalize r.c.tags.length = n2 at *
  generalize s.c.tags.length = n4 at *
  generalize r.c.id = a1 at *
  generalize r.c.kind = a2 at *
  generalize r.c.x = a3 at *
  generalize r.c.y = a4 at *
  generalize s.c.id = b1 at *
  generalize s.c.kind = b2 at *
  generalize s.c.x = b3 at *
  generalize s.c.y = b4 at *
  obtain ⟨W, hW⟩ : ∃ W, W = (w.alloc (.cells #[.string (mkB a1), .int .i64 a2, .int .i64 a3, .int .i64 a4, .slice A1 n1 c1, .slice A2 n2 c2] 43)).alloc (.cells #[.string (mkB b1), .int .i64 b2, .int .i64 b3, .int .i64 b4, .slice A3 n3 c3, .slice A4 n4 c4] 43) := ⟨_, rfl⟩
  have HX : Hid (W.heap[w.heap.size]? = some (.cells #[.string (mkB a1), .int .i64 a2, .int .i64 a3, .int .i64 a4, .slice A1 n1 c1, .slice A2 n2 c2] 43 (0, 0))) := Lib.hid (by rw [hW]; exact (alloc_old _ _ (by simp)).trans (heap_alloc_new w _))
  have HY : Hid (W.heap[w.heap.size + 1]? = some (.cells #[.string (mkB b1), .int .i64 b2, .int .i64 b3, .int .i64 b4, .slice A3 n3 c3, .slice A4 n4 c4] 43 (0, 0))) := Lib.hid (by rw [hW]; exact alloc_new' _ _ _ (by simp))
  have HZ : W.heap.size = w.heap.size + 2 := by rw [hW]; simp
  rw [← hW] at BB
  have BH := Lib.hid BB
  clear BB
  go_enter Tryz.func44, Tryz.ntmps44
  go_upto_region 1 with fail
  rw [← hW]
  clear hW
  have w10 := cell_of_row W w.heap.size 0 _ _ _ HX.out
  have w11 := cell_of_row W w.heap.size 1 _ _ _ HX.out
  have w12 := cell_of_row W w.heap.size 2 _ _ _ HX.out
  have w13 := cell_of_row W w.heap.size 3 _ _ _ HX.out
  have w14 := cell_of_row W w.heap.size 4 _ _ _ HX.out
  have w20 := cell_of_row W (w.heap.size + 1) 0 _ _ _ HY.out
  have w21 := cell_of_row W (w.heap.size + 1) 1 _ _ _ HY.out
  have w22 := cell_of_row W (w.heap.size + 1) 2 _ _ _ HY.out
  have w23 := cell_of_row W (w.heap.size + 1) 3 _ _ _ HY.out
  have w24 := cell_of_row W (w.heap.size + 1) 4 _ _ _ HY.out
  simp at w10 w11 w12 w13 w14 w20 w21 w22 w23 w24
  by_cases h1 : a1 = b1
  · have e1 : (a1 == b1) = true := by rw [h1]; simp
    have q1 : decide (a1 = b1) = true := decide_eq_true h1
    by_cases h2 : a2 = b2
    · have e2 : (a2 == b2) = true := by rw [h2]; simp
      by_cases h3 : a3 = b3
      · have e3 : (a3 == b3) = true := by rw [h3]; simp
        by_cases h4 : a4 = b4
        · have e4 : (a4 == b4) = true := by rw [h4]; simp
          rw [q1, decide_eq_true h2, decide_eq_true h3, decide_eq_true h4] at SO
          have S2 : Hid (R = (dr && dt)) := Lib.hid SO.out
          clear SO h1 q1 h2 h3 h4
          go_wp2_with fail
          refine (ER.out W BH.out).mono ?_
          rintro e w1 ⟨rfl, b1'⟩
          have B1 := Lib.hid (BH.out.trans (b1'.mono BH.out.size))
          have u15 := cell_of_row w1 w.heap.size 5 _ _ _ ((b1'.block _ (by omega)).trans HX.out)
          have u25 := cell_of_row w1 (w.heap.size + 1) 5 _ _ _ ((b1'.block _ (by omega)).trans HY.out)
          simp at u15 u25
          clear b1' w10 w11 w12 w13 w14 w20 w21 w22 w23 w24
          cases dr
          · have S3 : Hid (R = false) := Lib.hid S2.out
            go_wp2_with fail
            go_ret
            exact ⟨by rw [S3.out]; rfl, B1.out⟩
          · go_wp2_with fail
            refine (ET.out w1 B1.out).mono ?_
            rintro e w2 ⟨rfl, b2'⟩
            have B2 := Lib.hid (B1.out.trans (b2'.mono B1.out.size))
            have S3 : Hid (R = dt) := Lib.hid S2.out
            clear b2'
            cases dt
            all_goals
              go_wp2_with fail
              go_ret
              exact ⟨by rw [S3.out]; rfl, B2.out⟩
        · have e4 : (a4 == b4) = false := by simpa using h4
          have S3 : Hid (R = false) := Lib.hid (by rw [SO.out, decide_eq_false h4]; simp)
          clear SO h1 q1 h2 h3 h4
          go_wp2_with fail
          go_ret
          exact ⟨by rw [S3.out]; rfl, BH.out⟩
      · have e3 : (a3 == b3) = false := by simpa using h3
        have S3 : Hid (R = false) := Lib.hid (by rw [SO.out, decide_eq_false h3]; simp)
        clear SO h1 q1 h2 h3
        go_wp2_with fail
        go_ret
        exact ⟨by rw [S3.out]; rfl, BH.out⟩
    · have e2 : (a2 == b2) = false := by simpa using h2
      have S3 : Hid (R = false) := Lib.hid (by rw [SO.out, decide_eq_false h2]; simp)
      clear SO h1 q1 h2
      go_wp2_with fail
      go_ret
      exact ⟨by rw [S3.out]; rfl, BH.out⟩
  · have e1 : (a1 == b1) = false := by simpa using h1
    have S3 : Hid (R = false) := Lib.hid (by rw [SO.out, decide_eq_false h1]; simp)
    clear SO h1
    go_wp2_with fail
    go_ret
    exact ⟨by rw [S3.out]; rfl, BH.out⟩
end Go.Proofs.YtlejeelmlclnkaaGreatDoor
