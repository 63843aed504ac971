/- WALKS: atlas.Find, atlas.at, atlas.Same. -/
import Derived.Test.YtlejeelmlclnkaaGreatDoorBI
set_option linter.unusedSimpArgs false
set_option linter.unusedVariables false
namespace Go.Proofs.YtlejeelmlclnkaaGreatDoor
open Go.RowKit

theorem cmp_facts : ∀ (a b : Tx), (At.lt a b = true ∧ Lib.compareBytes a b = -1) ∨ (a = b ∧ Lib.compareBytes a b = 0) ∨ (At.lt b a = true ∧ Lib.compareBytes a b = 1)
  | [], [] => .inr (.inl ⟨rfl, rfl⟩)
  | [], _ :: _ => .inl ⟨rfl, rfl⟩
  | _ :: _, [] => .inr (.inr ⟨rfl, rfl⟩)
  | x :: a, y :: b => by
    have ih := cmp_facts a b
    unfold At.lt at ih ⊢
    rw [Lib.compareBytes]
    simp only [Op.bytesLess, Bool.or_eq_true, Bool.and_eq_true, decide_eq_true_eq, beq_iff_eq]
    by_cases h1 : x < y
    · rw [if_pos h1]; exact .inl ⟨.inl h1, rfl⟩
    · rw [if_neg h1]
      by_cases h2 : y < x
      · rw [if_pos h2]; exact .inr (.inr ⟨.inl h2, rfl⟩)
      · rw [if_neg h2]
        have e : x = y := by
          apply UInt8.toNat_inj.1
          have g1 : ¬ x.toNat < y.toNat := fun h => h1 (UInt8.lt_iff_toNat_lt.2 h)
          have g2 : ¬ y.toNat < x.toNat := fun h => h2 (UInt8.lt_iff_toNat_lt.2 h)
          omega
        subst e
        rcases ih with ⟨h, k⟩ | ⟨h, k⟩ | ⟨h, k⟩
        · exact .inl ⟨.inr ⟨rfl, h⟩, k⟩
        · exact .inr (.inl ⟨by rw [h], k⟩)
        · exact .inr (.inr ⟨.inr ⟨rfl, h⟩, k⟩)
theorem cts_get (l : List RO) {p : Nat} (hp : p < l.length) : (cts l)[p]? = some l[p].c := by simp [cts, hp]
set_option maxHeartbeats 1000000 in
theorem at1_any (r : RO) (id : Tx) (w : World) (h : ObIs w r) :
    Calls Tryz.prog 90 #[roA r, .string (mkB id)] w fun e w' => e = .returned (.int .i64 (Lib.compareBytes r.c.id id)) ∧ Below w.heap.size w w' := by
  obtain ⟨A1, q1, v1, -⟩ := h.rs
  obtain ⟨A2, q2, v2, -⟩ := h.ts
  have CP := fun u => Lib.hid (Tryz.strings_Compare (mkB r.c.id) (mkB id) u)
  rw [mkB_list, mkB_list] at CP
  unfold roA
  rw [v1, v2]
  have BX := Lib.hid (show Below w.heap.size w (w.alloc (.cells #[.string (mkB r.c.id), .int .i64 r.c.kind, .int .i64 r.c.x, .int .i64 r.c.y, .slice A1 r.c.refs.length q1, .slice A2 r.c.tags.length q2] 43)) from (Below.refl _ _).alloc (Nat.le_refl _) _)
  generalize Lib.compareBytes r.c.id id = R at *
  go_enter Tryz.func90, Tryz.ntmps90
  go_wp2_with fail
  refine (CP _).out.mono ?_
  rintro e w1 ⟨rfl, rfl⟩
  go_wp2_with fail
  go_ret
  exact ⟨rfl, BX.out⟩
/-- a place and whether it is the one -/
def AtP (i : Nat) (b : Bool) (e : Ending) : Prop := e = .returned (.tuple #[.int .i64 (i : Int), .bool b])
set_option maxHeartbeats 4000000 in
set_option maxRecDepth 100000 in
theorem bsearch_any (A : Option Addr) (n c : Nat) (l : List RO) (id : Tx) (w : World) (hn : n = l.length) (ho : At.Srt (cts l)) (h : Ms w A l) :
    Calls Tryz.prog 89 #[.slice A n c, .string (mkB id), .func (.func 90) #[] #[]] w fun e w' => AtP (At.pos (cts l) id) (At.has (cts l) id) e ∧ Below w.heap.size w w' := by
  have H := Lib.hid h
  have hl : n ≤ 100000 := by rw [hn]; exact h.len
  have SP : Hid (∀ i (hi : i < l.length), At.lt l[i].c.id id = true ↔ i < At.pos (cts l) id) := Lib.hid (fun i hi => by
    have := At.pos_split ho (id := id) (i := i) (by rw [cts_len]; exact hi)
    rw [← this]; simp [cts])
  have HS : Hid (∀ (hi : At.pos (cts l) id < l.length), At.has (cts l) id = decide (l[At.pos (cts l) id].c.id = id)) := Lib.hid (fun hi => by
    have hd := At.drop_pos ho id
    have h0 : ((cts l).drop (At.pos (cts l) id))[0]? = some l[At.pos (cts l) id].c := by
      rw [List.getElem?_drop, Nat.add_zero]
      exact cts_get l hi
    unfold At.has
    cases k : At.look (cts l) id with
    | none =>
      rw [k] at hd
      have hd : (cts l).drop (At.pos (cts l) id) = At.above (cts l) id := hd
      rw [hd] at h0
      have hm : l[At.pos (cts l) id].c ∈ At.above (cts l) id := List.mem_of_getElem? h0
      have := (At.mem_above.1 hm).2
      symm
      exact decide_eq_false (fun e => by rw [e, At.lt_irrefl] at this; cases this)
    | some z =>
      rw [k] at hd
      have hd : (cts l).drop (At.pos (cts l) id) = z :: At.above (cts l) id := hd
      rw [hd] at h0
      have h0 : z = l[At.pos (cts l) id].c := by simpa using h0
      rw [← h0, decide_eq_true (At.look_id k)]; rfl)
  have HE : Hid (¬ At.pos (cts l) id < l.length → At.has (cts l) id = false) := Lib.hid (fun hi => by
    have hd := At.drop_pos ho id
    rw [List.drop_eq_nil_of_le (by rw [cts_len]; omega)] at hd
    unfold At.has
    cases k : At.look (cts l) id with
    | none => rfl
    | some z => rw [k] at hd; cases hd)
  have CL := At.pos_le (cts l) id
  rw [cts_len] at CL
  have HN := Lib.hid hn
  rw [← hn] at CL
  clear ho h hn
  generalize At.pos (cts l) id = m at *
  generalize At.has (cts l) id = R at *
  have HB : Hid (Below w.heap.size w w) := Lib.hid (Below.refl _ _)
  unfold AtP
  go_enter Tryz.func89, Tryz.ntmps89
  go_wp2_with fail
  go_loopw [9, 10] (fun i j wr => ∃ a b : Nat, a ≤ m ∧ m ≤ b ∧ b ≤ n ∧ i = .int .i64 a ∧ j = .int .i64 b ∧ Hid (Below w.heap.size w wr)) (fun i j _ => (intOf j).toNat - (intOf i).toNat)
  case atStart => exact ⟨0, n, by omega, CL, Nat.le_refl _, rfl, rfl, HB⟩
  case round =>
    clear HB
    obtain ⟨a, b, ham, hmb, hbn, rfl, rfl, hbl⟩ := hrel
    by_cases hab : a < b
    · have d1 : (a : Int) < (b : Int) := by omega
      obtain ⟨k, hk⟩ : ∃ k, (a + b) / 2 = k := ⟨_, rfl⟩
      have hka : a ≤ k := by omega
      have hkb : k < b := by omega
      have hkn : k < n := by omega
      have hkl : k < l.length := by rw [← HN.out]; exact hkn
      have w1 : IntKind.i64.wrap ((a : Int) + (b : Int)) = (a : Int) + (b : Int) := IntWalk.i64_in _ (by omega)
      have w2 : IntKind.u64.wrap ((a : Int) + (b : Int)) = (a : Int) + (b : Int) := by rw [IntKind.wrap_u64]; omega
      have w3 : ((a : Int) + (b : Int)) / 2 = (k : Int) := by omega
      have w4 : IntKind.i64.wrap (k : Int) = (k : Int) := IntWalk.i64_in _ (by omega)
      have w5 : IntKind.u64.wrap (k : Int) = (k : Int) := by rw [IntKind.wrap_u64]; omega
      have w6 : IntKind.i64.wrap ((k : Int) + 1) = (k : Int) + 1 := IntWalk.i64_in _ (by omega)
      have s1 := SP.out k hkl
      obtain ⟨bl, off, rfl, hb, c0, c1, c2, c3, c4, c5⟩ := ros_at (H.out.rd.below hbl.out) hkl
      have HO := H.out.ob l[k] (List.getElem_mem hkl)
      generalize l[k] = x at *
      obtain ⟨A1, q1, v1, -⟩ := HO.rs
      obtain ⟨A2, q2, v2, -⟩ := HO.ts
      have AT : Hid (∀ u, Below w.heap.size w u → Calls Tryz.prog 90 #[roA x, .string (mkB id)] u fun e w' => e = .returned (.int .i64 (Lib.compareBytes x.c.id id)) ∧ Below u.heap.size u w') := Lib.hid (fun u hu => at1_any x id u (HO.below hu))
      unfold roA at AT
      rw [v1, v2] at AT
      rw [v1] at c4
      rw [v2] at c5
      clear HO v1 v2
      have CF := cmp_facts x.c.id id
      go_wp2_with fail
      refine (AT.out _ hbl.out).mono ?_
      rintro e w2 ⟨rfl, hb2⟩
      have B2 := Lib.hid (hbl.out.trans (hb2.mono hbl.out.size)); clear hb2 hbl AT c0 c1 c2 c3 c4 c5
      rcases CF with ⟨hs, e2⟩ | ⟨hs, e2⟩ | ⟨hs, e2⟩
      · rw [e2]
        have hm : k < m := s1.1 hs
        clear s1 hs
        go_wp2_with fail
        exact ⟨⟨k + 1, b, by omega, hmb, hbn, by go_num, rfl, B2⟩, by simp [intOf]; omega⟩
      · rw [e2]
        have hm : ¬ k < m := fun e => by have := s1.2 e; rw [hs, At.lt_irrefl] at this; cases this
        clear s1 hs
        go_wp2_with fail
        exact ⟨⟨a, k, ham, by omega, by omega, rfl, rfl, B2⟩, by simp [intOf]; omega⟩
      · rw [e2]
        have hm : ¬ k < m := fun e => by have := s1.2 e; rw [At.lt_asymm hs] at this; cases this
        clear s1 hs
        go_wp2_with fail
        exact ⟨⟨a, k, ham, by omega, by omega, rfl, rfl, B2⟩, by simp [intOf]; omega⟩
    · obtain rfl : a = m := by omega
      have d1 : ¬ (a : Int) < (b : Int) := by omega
      by_cases han : a < n
      · have d2 : (a : Int) < (n : Int) := by omega
        have d3 : (0 : Int) ≤ (a : Int) := by omega
        have hkl : a < l.length := by rw [← HN.out]; exact han
        obtain ⟨bl, off, rfl, hb, c0, c1, c2, c3, c4, c5⟩ := ros_at (H.out.rd.below hbl.out) hkl
        have HO := H.out.ob l[a] (List.getElem_mem hkl)
        have RS := Lib.hid (HS.out hkl)
        generalize l[a] = x at *
        obtain ⟨A1, q1, v1, -⟩ := HO.rs
        obtain ⟨A2, q2, v2, -⟩ := HO.ts
        have AT : Hid (∀ u, Below w.heap.size w u → Calls Tryz.prog 90 #[roA x, .string (mkB id)] u fun e w' => e = .returned (.int .i64 (Lib.compareBytes x.c.id id)) ∧ Below u.heap.size u w') := Lib.hid (fun u hu => at1_any x id u (HO.below hu))
        unfold roA at AT
        rw [v1, v2] at AT
        rw [v1] at c4
        rw [v2] at c5
        clear HO v1 v2
        have CF := cmp_facts x.c.id id
        go_wp2_with fail
        refine (AT.out _ hbl.out).mono ?_
        rintro e w2 ⟨rfl, hb2⟩
        have B2 := Lib.hid (hbl.out.trans (hb2.mono hbl.out.size)); clear hb2 hbl AT c0 c1 c2 c3 c4 c5
        rcases CF with ⟨hs, e2⟩ | ⟨hs, e2⟩ | ⟨hs, e2⟩
        · rw [e2]
          have R2 : Hid (R = false) := Lib.hid (by rw [RS.out]; exact decide_eq_false (At.lt_ne hs))
          clear hs
          go_wp2_with fail
          go_ret2
          exact ⟨by rw [R2.out]; rfl, B2.out⟩
        · rw [e2]
          have R2 : Hid (R = true) := Lib.hid (by rw [RS.out]; exact decide_eq_true hs)
          clear hs
          go_wp2_with fail
          go_ret2
          exact ⟨by rw [R2.out]; rfl, B2.out⟩
        · rw [e2]
          have R2 : Hid (R = false) := Lib.hid (by rw [RS.out]; exact decide_eq_false (At.lt_ne hs).symm)
          clear hs
          go_wp2_with fail
          go_ret2
          exact ⟨by rw [R2.out]; rfl, B2.out⟩
      · have d2 : ¬ (a : Int) < (n : Int) := by omega
        have R2 : Hid (R = false) := Lib.hid (HE.out (by rw [← HN.out]; exact han))
        go_wp2_with fail
        go_ret2
        exact ⟨by rw [R2.out]; rfl, hbl.out⟩
set_option maxHeartbeats 1000000 in
theorem at_any (A : Option Addr) (n c : Nat) (l : List RO) (id : Tx) (w : World) (hn : n = l.length) (ho : At.Srt (cts l)) (h : Ms w A l) :
    Calls Tryz.prog 52 #[.agg #[.slice A n c], .string (mkB id)] w fun e w' => AtP (At.pos (cts l) id) (At.has (cts l) id) e ∧ Below w.heap.size w w' := by
  have BX := Lib.hid (show Below w.heap.size w (w.alloc (.cells #[.slice A n c] 24)) from (Below.refl _ _).alloc (Nat.le_refl _) _)
  have VD := Lib.hid (bsearch_any A n c l id _ hn ho (h.below BX.out))
  generalize At.pos (cts l) id = m at *
  generalize At.has (cts l) id = R at *
  clear h hn ho
  unfold AtP at *
  go_enter Tryz.func52, Tryz.ntmps52
  go_wp2_with fail
  refine VD.out.mono ?_
  rintro e w1 ⟨rfl, b1⟩
  have B1 := Lib.hid (BX.out.trans (b1.mono BX.out.size))
  clear b1
  go_wp2_with fail
  go_ret2
  exact ⟨rfl, B1.out⟩
end Go.Proofs.YtlejeelmlclnkaaGreatDoor
