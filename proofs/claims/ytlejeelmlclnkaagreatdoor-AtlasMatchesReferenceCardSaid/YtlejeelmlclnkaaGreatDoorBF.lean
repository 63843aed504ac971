/- WORDS AND WALKS: the closure of object.Valid. -/
import Derived.Test.YtlejeelmlclnkaaGreatDoorBE
import Derived.Test.YtlejeelmlclnkaaGreatDoorNM
set_option linter.unusedSimpArgs false
set_option linter.unusedVariables false
namespace Go.Proofs.YtlejeelmlclnkaaGreatDoor
open Go.RowKit Go.Maps Go.ChangeMaps Go.MapKept Go.WideShapes Go.WideMaps

theorem strK : Go.Maps.Keyed Tryz.prog 9 := Maps.string_keyed Tryz.underlying9
theorem key_str (s : Tx) (hs : s.length ≤ 1000000) : keyOf Tryz.prog 9 (.string (mkB s)) = some (.string s) := by
  have := keyOf_string_mk (P := Tryz.prog) (s := mkB s) Tryz.underlying9 (by unfold maxLen; rw [mkB_len]; omega)
  rwa [mkB_list] at this
theorem zBool (w : World) : (zeroValue 4).run Tryz.prog w = .ok (.bool false) w := by kernel_rfl
def seenM (seen : List Tx) : Lit → Option Value
  | .string t => if t ∈ seen then some (.bool true) else none
  | _ => none
theorem same_str {a b : List UInt8} : (Lit.string a).sameKey (.string b) = decide (a = b) := by
  rw [Bool.eq_iff_iff]; simp [Lit.sameKey]
theorem seenM_upd (seen : List Tx) (t : Tx) : updM (seenM seen) (.string t) (.bool true) = seenM (t :: seen) := by
  funext x
  unfold updM
  by_cases e : x = .string t
  · subst e
    rw [if_pos (by rw [same_str]; simp)]
    simp [seenM]
  · rw [if_neg (by rw [Maps.sameKey_ne e]; simp)]
    cases x with
    | string s =>
      have hs : s ≠ t := fun h => e (by rw [h])
      simp [seenM, hs]
    | _ => rfl
/-- what the closure holds: the object's box, the last one, the map of those that were seen -/
structure Wr (w : World) (bo bl bs bm : Nat) (o : RO) (last : Tx) (seen : List Tx) (nk : Nat) : Prop where
  box : w.heap[bo]? = some (.cells #[.string (mkB o.c.id), .int .i64 o.c.kind, .int .i64 o.c.x, .int .i64 o.c.y, o.rv, o.tv] 43 (0, 0))
  lst : w.heap[bl]? = some (.cells #[.string (mkB last)] 9 (0, 0))
  sn : w.heap[bs]? = some (.cells #[.map (some bm)] 104 (0, 0))
  mp : MapAt w Tryz.prog 9 bm (seenM seen) nk
  ne : bo ≠ bl ∧ bs ≠ bl ∧ bo ≠ bm ∧ bs ≠ bm ∧ bl ≠ bm
/-- is a reference wrong? -/
def wrongB (kind : Int) (last : Tx) (seen : List Tx) (s : Tx) : Bool := (decide (kind = 2) && decide (s = last) || decide (kind = 3) && decide (s ∈ seen)) || !At.nameB s
/-- all but the two blocks of the closure -/
def WrPost (w : World) (bo bl bs bm : Nat) (o : RO) (last : Tx) (seen : List Tx) (nk : Nat) (s : Tx) (e : Ending) (w' : World) : Prop :=
  e = .returned (.bool (wrongB o.c.kind last seen s)) ∧ (∃ nk' ≤ nk + 1, Wr w' bo bl bs bm o s (s :: seen) nk') ∧ But (fun b => b = bl ∨ b = bm) w w'
set_option maxHeartbeats 2000000 in
set_option maxRecDepth 100000 in
theorem wrong_any (bo bl bs bm : Nat) (o : RO) (last s : Tx) (seen : List Tx) (nk : Nat) (w : World) (h : Wr w bo bl bs bm o last seen nk) (hs : s.length ≤ 1000000) (hn : nk ≤ 1000000) :
    Calls Tryz.prog 81 #[.string (mkB s), .pointer (some ⟨bo, 0, none⟩), .pointer (some ⟨bl, 0, none⟩), .pointer (some ⟨bs, 0, none⟩)] w (WrPost w bo bl bs bm o last seen nk s) := by
  have H := Lib.hid h
  have k1 := cell_of_row w bo 1 _ _ _ h.box
  have l0 := cell_of_row w bl 0 _ _ _ h.lst
  have s0 := cell_of_row w bs 0 _ _ _ h.sn
  have fl := free_blk h.lst 0
  simp at k1 l0 s0
  have KS := key_str s hs
  have lk := h.mp.look strK Tryz.underlying104 (zBool w) KS
  obtain ⟨w2, hup, hm2, hg2⟩ := h.mp.upd strK Tryz.underlying104 (by unfold maxLen; omega) KS (.bool true)
  rw [seenM_upd] at hm2
  have gB : ∀ b, b < w.heap.size → b ≠ bm → w2.heap[b]? = w.heap[b]? := fun b hb hne => hg2.block b hb (fun e => hne (Option.some.inj e))
  have hlt : ∀ b x, w.heap[b]? = some x → b < w.heap.size := fun b x hx => by
    rcases Nat.lt_or_ge b w.heap.size with h' | h'
    · exact h'
    · rw [Array.getElem?_eq_none h'] at hx; cases hx
  have nl2 : w2.heap[bl]? = some (.cells #[.string (mkB last)] 9 (0, 0)) := (gB bl (hlt _ _ h.lst) h.ne.2.2.2.2).trans h.lst
  have l2 := cell_of_row w2 bl 0 _ _ _ nl2
  have f2 := free_blk nl2 0
  simp at l2
  have W3 : Wr (w2.setCell ⟨bl, 0, none⟩ (.string (mkB s))) bo bl bs bm o s (s :: seen) (nk + if (seenM seen (.string s)).isSome then 0 else 1) :=
    ⟨(Below.heap_setCell _ _ _ _ (by exact h.ne.1)).trans ((gB bo (hlt _ _ h.box) h.ne.2.2.1).trans h.box), one_setCell nl2, (Below.heap_setCell _ _ _ _ (by exact h.ne.2.1)).trans ((gB bs (hlt _ _ h.sn) h.ne.2.2.2.1).trans h.sn), hm2.same (Below.heap_setCell _ _ _ _ (by exact h.ne.2.2.2.2.symm)), h.ne⟩
  have U3 : But (fun b => b = bl ∨ b = bm) w (w2.setCell ⟨bl, 0, none⟩ (.string (mkB s))) :=
    But.set (p := ⟨bl, 0, none⟩) ⟨hg2.os, hg2.tape, hg2.output, hg2.size, fun b hb hx => gB b hb (fun e => hx (.inr e))⟩ (.inl rfl) _
  have W3H := Lib.hid W3
  have U3H := Lib.hid U3
  have nkb : (nk + if (seenM seen (.string s)).isSome then 0 else 1) ≤ nk + 1 := by split <;> omega
  generalize (nk + if (seenM seen (.string s)).isSome then 0 else 1) = nk' at *
  have NKB := Lib.hid nkb
  have LV : Hid ((seenM seen (.string s)).getD (.bool false) = .bool (decide (s ∈ seen))) := Lib.hid (by
    by_cases e : s ∈ seen <;> simp [seenM, e])
  rw [LV.out] at lk
  have NM := fun u => Lib.hid (name_any s u (by omega))
  have ts := mkB_tl s
  have tl := mkB_tl last
  have WB : Hid (wrongB o.c.kind last seen s = ((decide (o.c.kind = 2) && decide (s = last) || decide (o.c.kind = 3) && decide (s ∈ seen)) || !At.nameB s)) := Lib.hid rfl
  unfold WrPost
  generalize wrongB o.c.kind last seen s = R at *
  have FIN : ∀ (T : Bool) (w1 : World), R = T → Below (w2.setCell ⟨bl, 0, none⟩ (.string (mkB s))).heap.size (w2.setCell ⟨bl, 0, none⟩ (.string (mkB s))) w1 → (∃ nk' ≤ nk + 1, Wr w1 bo bl bs bm o s (s :: seen) nk') ∧ But (fun b => b = bl ∨ b = bm) w w1 := fun T w1 _ hb => by
    have hw := W3H.out
    refine ⟨⟨nk', NKB.out, ⟨(hb.block _ ?_).trans hw.box, (hb.block _ ?_).trans hw.lst, (hb.block _ ?_).trans hw.sn, hw.mp.same (hb.block _ hw.mp.lt), hw.ne⟩⟩, U3H.out.trans (But.of_below hb)⟩
    all_goals
      refine Nat.lt_of_not_le (fun h' => ?_)
    · have := hw.box; rw [Array.getElem?_eq_none h'] at this; cases this
    · have := hw.lst; rw [Array.getElem?_eq_none h'] at this; cases this
    · have := hw.sn; rw [Array.getElem?_eq_none h'] at this; cases this
  have FINH := Lib.hid FIN
  clear W3 U3 nkb FIN hm2 hg2 gB hlt h KS nl2 LV
  generalize o.c.kind = kd at *
  generalize decide (s ∈ seen) = ds at *
  generalize At.nameB s = nb at *
  by_cases k2 : kd = 2
  · subst k2
    by_cases e : s = last
    · have e1 : (s == last) = true := by rw [e]; simp
      have R1 : Hid (R = true) := Lib.hid (by rw [WB.out, decide_eq_true e]; simp)
      clear WB e NM
      go_enter Tryz.func81, Tryz.ntmps81
      go_wp2_with fail
      go_ret
      exact ⟨by rw [R1.out]; rfl, FINH.out true _ R1.out (Below.refl _ _)⟩
    · have e1 : (s == last) = false := by simpa using e
      have R1 : Hid (R = !nb) := Lib.hid (by rw [WB.out, decide_eq_false e]; simp)
      clear WB e
      go_enter Tryz.func81, Tryz.ntmps81
      go_wp2_with fail
      refine (NM _).out.mono ?_
      rintro e w4 ⟨rfl, b4⟩
      have B4 := Lib.hid b4
      clear b4 NM
      cases nb
      all_goals
        go_wp2_with fail
        go_ret
        exact ⟨by rw [R1.out]; rfl, FINH.out _ _ R1.out B4.out⟩
  · by_cases k3 : kd = 3
    · subst k3
      cases ds
      · have R1 : Hid (R = !nb) := Lib.hid (by rw [WB.out]; simp)
        clear WB
        go_enter Tryz.func81, Tryz.ntmps81
        go_wp2_with fail
        refine (NM _).out.mono ?_
        rintro e w4 ⟨rfl, b4⟩
        have B4 := Lib.hid b4
        clear b4 NM
        cases nb
        all_goals
          go_wp2_with fail
          go_ret
          exact ⟨by rw [R1.out]; rfl, FINH.out _ _ R1.out B4.out⟩
      · have R1 : Hid (R = true) := Lib.hid (by rw [WB.out]; simp)
        clear WB NM
        go_enter Tryz.func81, Tryz.ntmps81
        go_wp2_with fail
        go_ret
        exact ⟨by rw [R1.out]; rfl, FINH.out true _ R1.out (Below.refl _ _)⟩
    · have e2 : (kd == 2) = false := by simpa using k2
      have e3 : (kd == 3) = false := by simpa using k3
      have R1 : Hid (R = !nb) := Lib.hid (by rw [WB.out, decide_eq_false k2, decide_eq_false k3]; simp)
      clear WB k2 k3
      go_enter Tryz.func81, Tryz.ntmps81
      go_wp2_with fail
      refine (NM _).out.mono ?_
      rintro e w4 ⟨rfl, b4⟩
      have B4 := Lib.hid b4
      clear b4 NM
      cases nb
      all_goals
        go_wp2_with fail
        go_ret
        exact ⟨by rw [R1.out]; rfl, FINH.out _ _ R1.out B4.out⟩
end Go.Proofs.YtlejeelmlclnkaaGreatDoor
