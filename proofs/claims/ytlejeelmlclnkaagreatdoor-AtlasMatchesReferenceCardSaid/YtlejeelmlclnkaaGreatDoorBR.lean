/- WALKS: atlas.Points. -/
import Derived.Test.YtlejeelmlclnkaaGreatDoorBQ
set_option linter.unusedSimpArgs false
set_option linter.unusedVariables false
namespace Go.Proofs.YtlejeelmlclnkaaGreatDoor
open Go.RowKit

abbrev Pt2 := Int × Int
def ptC (p : Pt2) : List Value := [.int .i64 p.1, .int .i64 p.2]
def ptsC (l : List Pt2) : List Value := l.flatMap ptC
theorem ptsC_app (a b : List Pt2) : ptsC (a ++ b) = ptsC a ++ ptsC b := by unfold ptsC; rw [List.flatMap_append]
def ptsF (l : List At.Ob) : List Tx → Option (List Pt2)
  | [] => some []
  | r :: rs => match At.look l r with
    | some z => if z.kind = 1 then (ptsF l rs).map ((z.x, z.y) :: ·) else none
    | none => none
theorem ptsF_len (l : List At.Ob) : ∀ (rs : List Tx) (P : List Pt2), ptsF l rs = some P → P.length = rs.length
  | [], P, h => by cases h; rfl
  | r :: rs, P, h => by
    rw [ptsF] at h
    split at h
    · split at h
      · cases k : ptsF l rs with
        | none => rw [k] at h; cases h
        | some Q =>
          rw [k] at h
          cases h
          simp [ptsF_len l rs Q k]
      · cases h
    · cases h
def pointsM (l : List At.Ob) (id : Tx) : List Pt2 × Nat :=
  if At.validM l then
    match At.look l id with
    | none => ([], 11)
    | some o => if o.kind = 1 then ([(o.x, o.y)], 0) else if o.kind = 2 ∨ o.kind = 3 then (match ptsF l o.refs with | some P => (P, 0) | none => ([], 14)) else ([], 13)
  else ([], 1)
def PtsE (w : World) (r : List Pt2 × Nat) (e : Ending) (w' : World) : Prop :=
  ∃ (A : Option Addr) (c : Nat), e = .returned (.tuple #[.slice A r.1.length c, .int .i64 (r.2 : Int)]) ∧ Rd w' A (ptsC r.1) ∧ Below w.heap.size w w'
theorem info_pt : (Tryz.prog.info? 39).map (fun i => (i.zero, i.size, i.bytes)) = some (some (.agg #[.int .i64 0, .int .i64 0]), 2, 16) := by kernel_rfl
theorem look_pos {l : List RO} (hs : At.Srt (cts l)) {id : Tx} {z : At.Ob} (h : At.look (cts l) id = some z) : ∃ hp : At.pos (cts l) id < l.length, l[At.pos (cts l) id].c = z := by
  obtain ⟨hp, e⟩ := At.get_pos hs h
  have hp' := hp
  rw [cts_len] at hp'
  refine ⟨hp', ?_⟩
  rw [← e]
  have := cts_get l hp'
  rw [List.getElem?_eq_getElem hp] at this
  exact (Option.some.inj this).symm
theorem has_some {l : List At.Ob} {id : Tx} {z : At.Ob} (h : At.look l id = some z) : At.has l id = true := by unfold At.has; rw [h]; rfl
theorem has_none {l : List At.Ob} {id : Tx} (h : At.look l id = none) : At.has l id = false := by unfold At.has; rw [h]; rfl
set_option maxHeartbeats 4000000 in
set_option maxRecDepth 100000 in
theorem points_any (A : Option Addr) (n c : Nat) (l : List RO) (id : Tx) (w : World) (hn : n = l.length) (h : Ms w A l) :
    Calls Tryz.prog 31 #[.agg #[.slice A n c], .string (mkB id)] w (PtsE w (pointsM (cts l) id)) := by
  have hl : n ≤ 100000 := by rw [hn]; exact h.len
  have PM : Hid (pointsM (cts l) id = if At.validM (cts l) then (match At.look (cts l) id with | none => ([], 11) | some o => if o.kind = 1 then ([(o.x, o.y)], 0) else if o.kind = 2 ∨ o.kind = 3 then (match ptsF (cts l) o.refs with | some P => (P, 0) | none => ([], 14)) else ([], 13)) else ([], 1)) := Lib.hid rfl
  have ERR : Hid (∀ (w1 : World) (k : Nat), Below w.heap.size w w1 → pointsM (cts l) id = ([], k) → PtsE w (pointsM (cts l) id) (.returned (.tuple #[.slice none 0 0, .int .i64 (k : Int)])) w1) := Lib.hid (fun w1 k hb e => by
    rw [e]; exact ⟨none, 0, rfl, Rd.nil_ _ _, hb⟩)
  obtain ⟨X, hX⟩ : ∃ X, X = (w.alloc (.cells #[.slice A n c] 24)).alloc (.cells #[.slice A n c] 24) := ⟨_, rfl⟩
  have BX : Below w.heap.size w X := by rw [hX]; exact ((Below.refl _ _).alloc (Nat.le_refl _) _).alloc (by first | (simp; done) | (simp; omega)) _
  have X0 : X.heap[w.heap.size]? = some (.cells #[.slice A n c] 24 (0, 0)) := by rw [hX]; exact (alloc_old _ _ (by first | (simp; done) | (simp; omega))).trans (heap_alloc_new w _)
  have X3 : X.heap[w.heap.size + 1]? = some (.cells #[.slice A n c] 24 (0, 0)) := by rw [hX]; exact alloc_new' _ _ _ (by first | (simp; done) | (simp; omega))
  have XZ : X.heap.size = w.heap.size + 2 := by rw [hX]; simp
  have VD := Lib.hid (valids_any (some ⟨w.heap.size + 1, 0, none⟩) 1 1 [⟨A, c, l⟩] X rfl (by omega) (Rd.of_row X3 (by rw [hn]; exact List.prefix_refl _)) (fun m hm => by rw [List.mem_singleton.1 hm]; exact h.below BX))
  have AV : allV [⟨A, c, l⟩] = At.validM (cts l) := by simp [allV]
  rw [AV] at VD
  have HB := Lib.hid BX
  have CF : Hid (∀ u, Below X.heap.size X u → u.cell? ⟨w.heap.size, 0, none⟩ = some (.slice A n c)) := Lib.hid (fun u hu => cell_of_row u _ 0 _ _ _ ((hu.block w.heap.size (by omega)).trans X0))
  have HM := Lib.hid h
  have HN := Lib.hid hn
  clear X0 X3 BX h hn AV
  go_enter Tryz.func31, Tryz.ntmps31
  go_wp2_with fail
  try rw [← hX]
  clear hX
  refine VD.out.mono ?_
  rintro e u1 ⟨rfl, b1⟩
  have B1 := Lib.hid (show Below X.heap.size X u1 from b1)
  have W1 := Lib.hid (HB.out.trans (Below.mono b1 HB.out.size))
  have k0 := CF.out u1 B1.out
  clear b1 VD
  cases hV : At.validM (cts l)
  · have PE : Hid (pointsM (cts l) id = ([], 1)) := Lib.hid (by rw [PM.out, hV]; rfl)
    go_wp2_with fail
    go_ret2
    exact ERR.out _ 1 W1.out PE.out
  · have SR : Hid (At.Srt (cts l)) := Lib.hid (At.validM_iff.1 hV).1
    have AD := Lib.hid (at_any A n c l id u1 HN.out SR.out (HM.out.below W1.out))
    go_wp2_with fail
    refine AD.out.mono ?_
    rintro e u3 ⟨rfl, b3⟩
    have B3 := Lib.hid (B1.out.trans (b3.mono B1.out.size))
    have W3 := Lib.hid (HB.out.trans (Below.mono B3.out HB.out.size))
    clear b3 AD B1 W1 k0
    have k0 := CF.out u3 B3.out
    cases hH : At.look (cts l) id with
    | none =>
      rw [has_none hH]
      have PE : Hid (pointsM (cts l) id = ([], 11)) := Lib.hid (by rw [PM.out, hV, if_pos rfl, hH])
      go_wp2_with fail
      go_ret2
      exact ERR.out _ 11 W3.out PE.out
    | some z =>
      rw [has_some hH]
      have PE : Hid (pointsM (cts l) id = if z.kind = 1 then ([(z.x, z.y)], 0) else if z.kind = 2 ∨ z.kind = 3 then (match ptsF (cts l) z.refs with | some P => (P, 0) | none => ([], 14)) else ([], 13)) := Lib.hid (by rw [PM.out, hV, if_pos rfl, hH])
      obtain ⟨hp, hz⟩ := look_pos SR.out hH
      generalize At.pos (cts l) id = p at *
      have hpn : p < n := by rw [HN.out]; exact hp
      have d1 : (p : Int) < (n : Int) := by omega
      have d2 : (0 : Int) ≤ (p : Int) := by omega
      obtain ⟨b, off, rfl, hb, c0, c1, c2, c3, c4, c5⟩ := ros_at (HM.out.rd.below W3.out) hp
      have HO := HM.out.ob l[p] (List.getElem_mem hp)
      have SZ := (HM.out.sz l[p] (List.getElem_mem hp)).2
      generalize l[p] = x at *
      subst hz
      obtain ⟨A1, q1, v1, r1⟩ := HO.rs
      obtain ⟨A2, q2, v2, -⟩ := HO.ts
      rw [v1] at c4
      rw [v2] at c5
      have BX : Hid (Below u3.heap.size u3 (u3.alloc (.cells #[.string (mkB x.c.id), .int .i64 x.c.kind, .int .i64 x.c.x, .int .i64 x.c.y, .slice A1 x.c.refs.length q1, .slice A2 x.c.tags.length q2] 43))) := Lib.hid ((Below.refl _ _).alloc (Nat.le_refl _) _)
      have XX := heap_alloc_new u3 (.cells #[.string (mkB x.c.id), .int .i64 x.c.kind, .int .i64 x.c.x, .int .i64 x.c.y, .slice A1 x.c.refs.length q1, .slice A2 x.c.tags.length q2] 43)
      have RR := Lib.hid r1
      clear HO v1 v2 r1 PM
      go_upto_region 7 with fail
      generalize hY : u3.alloc (.cells #[.string (mkB x.c.id), .int .i64 x.c.kind, .int .i64 x.c.x, .int .i64 x.c.y, .slice A1 x.c.refs.length q1, .slice A2 x.c.tags.length q2] 43) = Y at *
      have BY := Lib.hid (B3.out.trans (Below.mono BX.out B3.out.size))
      have WY := Lib.hid (HB.out.trans (Below.mono BY.out HB.out.size))
      have y0 := CF.out Y BY.out
      have y1 := cell_of_row Y u3.heap.size 1 _ _ _ XX
      have y2 := cell_of_row Y u3.heap.size 2 _ _ _ XX
      have y3 := cell_of_row Y u3.heap.size 3 _ _ _ XX
      have y4 := cell_of_row Y u3.heap.size 4 _ _ _ XX
      simp at y1 y2 y3 y4
      clear c0 c1 c2 c3 c4 c5 k0 XX hY
      by_cases q1' : x.c.kind = 1
      · have P1 : Hid (pointsM (cts l) id = ([(x.c.x, x.c.y)], 0)) := Lib.hid (by rw [PE.out, if_pos q1'])
        rw [q1'] at y1
        clear PE
        go_wp2_with fail
        go_ret2
        refine ⟨some ⟨Y.heap.size, 0, none⟩, 1, by rw [P1.out]; rfl, ?_, (WY.out.alloc WY.out.size _)⟩
        rw [P1.out]
        exact Rd.of_row (heap_alloc_new Y _) (List.prefix_refl _)
      · have e1 : (x.c.kind == 1) = false := by simpa using q1'
        by_cases q2' : x.c.kind = 2 ∨ x.c.kind = 3
        · have P1 : Hid (pointsM (cts l) id = (match ptsF (cts l) x.c.refs with | some P => (P, 0) | none => ([], 14))) := Lib.hid (by rw [PE.out, if_neg q1', if_pos q2'])
          have ST : Hid (ptsF (cts l) x.c.refs = (ptsF (cts l) (x.c.refs.drop 0)).map (([] : List Pt2) ++ ·)) := Lib.hid (by simp)
          have S0 : Hid (Y.ownsRow Y.heap.size 39 2 (.slice none 0 0) ([] : List Pt2).length (ptsC [])) := Lib.hid (World.ownsRow_nil _ _ _ _)
          clear PE
          have m0 : x.c.refs.length ≤ 100000 := SZ
          obtain ⟨m, hm⟩ : ∃ m, x.c.refs.length = m := ⟨_, rfl⟩
          have HMm := Lib.hid hm
          rw [hm] at y4 m0
          clear hm
          have B0 : Hid (Below Y.heap.size Y Y) := Lib.hid (Below.refl _ _)
          have yz : w.heap.size < Y.heap.size := by have := BY.out.size; omega
          rcases q2' with q2' | q2'
          all_goals
            rw [q2'] at y1
            clear e1 q1' q2'
            go_wp2_with fail
            go_loopw [9, 11, 12, 13, 44] (fun s9 s11 s12 s13 s44 wr => ∃ (k : Nat) (P : List Pt2), k ≤ m ∧ Hid (P.length ≤ k) ∧ s44 = .int .i64 (k : Int) ∧ (∃ p, s11 = p) ∧ (∃ p, s12 = p) ∧ (∃ p, s13 = p) ∧ Hid (ptsF (cts l) x.c.refs = (ptsF (cts l) (x.c.refs.drop k)).map (P ++ ·)) ∧ Hid (wr.ownsRow Y.heap.size 39 2 s9 P.length (ptsC P)) ∧ Hid (Below Y.heap.size Y wr)) (fun _ _ _ _ i _ => m - (intOf i).toNat)
            case atStart => exact ⟨0, [], Nat.zero_le _, Lib.hid (Nat.zero_le _), rfl, ⟨_, rfl⟩, ⟨_, rfl⟩, ⟨_, rfl⟩, ST, S0, B0⟩
            case round =>
              clear ST S0 B0 y0 y1 y2 y3 y4
              obtain ⟨k, P, hk, hPk, rfl, ⟨p11, rfl⟩, ⟨p12, rfl⟩, ⟨p13, rfl⟩, ST, OW, BL⟩ := hrel
              have BX1 := Lib.hid (BY.out.trans (Below.mono BL.out BY.out.size))
              have WX1 := Lib.hid (HB.out.trans (Below.mono BX1.out HB.out.size))
              by_cases hlt : k < m
              · have hkl : k < x.c.refs.length := by rw [HMm.out]; exact hlt
                have f1 : (k : Int) < (m : Int) := by omega
                have f2 : (0 : Int) ≤ (k : Int) := by omega
                obtain ⟨b1, off1, rfl, hb1, g0⟩ := strs_at (RR.out.below WX1.out) hkl
                have k0 := CF.out wr BX1.out
                have SK : Hid (ptsF (cts l) (x.c.refs.drop k) = (match At.look (cts l) x.c.refs[k] with | some z => if z.kind = 1 then (ptsF (cts l) (x.c.refs.drop (k + 1))).map ((z.x, z.y) :: ·) else none | none => none)) := Lib.hid (by rw [List.drop_eq_getElem_cons hkl, ptsF])
                generalize x.c.refs[k] = r at *
                have AD := Lib.hid (at_any (some ⟨b, off, none⟩) n c l r wr HN.out SR.out (HM.out.below WX1.out))
                go_wp2_with fail
                refine AD.out.mono ?_
                rintro e w1 ⟨rfl, b1'⟩
                have BL1 := Lib.hid (BL.out.trans (b1'.mono BL.out.size))
                have BX2 := Lib.hid (BX1.out.trans (b1'.mono BX1.out.size))
                have WX2 := Lib.hid (HB.out.trans (Below.mono BX2.out HB.out.size))
                have OW1 := Lib.hid (own_same OW.out (fun g hg => b1'.block g (OW.out.lt g hg).2))
                have k1 := CF.out w1 BX2.out
                clear b1' AD OW BL BX1 WX1 k0 g0
                cases hL : At.look (cts l) r with
                | none =>
                  rw [has_none hL]
                  have P2 : Hid (pointsM (cts l) id = ([], 14)) := Lib.hid (by rw [P1.out, ST.out, SK.out, hL]; rfl)
                  clear ST SK
                  go_wp2_with fail
                  go_ret2
                  exact ERR.out _ 14 WX2.out P2.out
                | some z2 =>
                  rw [has_some hL]
                  obtain ⟨hp2, hz2⟩ := look_pos SR.out hL
                  generalize At.pos (cts l) r = p2 at *
                  have hpn2 : p2 < n := by rw [HN.out]; exact hp2
                  have f3 : (p2 : Int) < (n : Int) := by omega
                  have f4 : (0 : Int) ≤ (p2 : Int) := by omega
                  obtain ⟨b', off', hA', hb', c0, c1, c2, c3, c4, c5⟩ := ros_at (HM.out.rd.below WX2.out) hp2
                  injection hA' with hA'
                  injection hA' with hA1 hA2 _
                  subst hA1 hA2
                  rw [hz2] at c1 c2 c3
                  clear c0 c4 c5 hz2
                  by_cases qk : z2.kind = 1
                  · have e5 : (z2.kind != 1) = false := by rw [qk]; rfl
                    have ST2 : Hid (ptsF (cts l) x.c.refs = (ptsF (cts l) (x.c.refs.drop (k + 1))).map ((P ++ [(z2.x, z2.y)]) ++ ·)) := Lib.hid (by
                      rw [ST.out, SK.out, hL]
                      simp only [qk, if_true]
                      cases ptsF (cts l) (x.c.refs.drop (k + 1)) <;> simp)
                    have bz := BL1.out.size
                    have lp : P.length ≤ 100000 := by have := hPk.out; omega
                    clear ST SK qk
                    go_wp2_with (at_builtin; refine wpList_appN rfl (.tmp 65) (.tmp 72) 58 rfl Tryz.underlying58 info_pt rfl (by decide) Y.heap.size _ P.length (ptsC P) _ 1 (by decide) rfl (by intro y hy; simp at hy; rcases hy with rfl | rfl <;> rfl) rfl rfl rfl OW1.out bz (by omega) (by omega) ?_; intro g7 c7 w7 ho7 hg7 hl7 hb7)
                    refine ⟨⟨k + 1, P ++ [(z2.x, z2.y)], by omega, Lib.hid (by have := hPk.out; simp; omega), by go_num, ⟨_, rfl⟩, ⟨_, rfl⟩, ⟨_, rfl⟩, ST2, ?_, Lib.hid (BL1.out.trans hb7)⟩, by simp [intOf]; omega⟩
                    rw [List.length_append, ptsC_app]
                    exact Lib.hid ho7
                  · have e5 : (z2.kind != 1) = true := by simpa using qk
                    have P2 : Hid (pointsM (cts l) id = ([], 14)) := Lib.hid (by rw [P1.out, ST.out, SK.out, hL]; simp [qk])
                    clear ST SK qk
                    go_wp2_with fail
                    go_ret2
                    exact ERR.out _ 14 WX2.out P2.out
              · have f1 : ¬ (k : Int) < (m : Int) := by omega
                have P2 : Hid (pointsM (cts l) id = (P, 0)) := Lib.hid (by rw [P1.out, ST.out, List.drop_eq_nil_of_le (by rw [HMm.out]; omega)]; simp [ptsF])
                obtain ⟨A5, c5, hv5, hr5⟩ := own_sl OW.out
                have R5 := Lib.hid hr5
                clear hr5 OW ST P1
                subst hv5
                go_wp2_with fail
                go_ret2
                exact ⟨A5, c5, by rw [P2.out]; rfl, by rw [P2.out]; exact R5.out, WX1.out⟩
        · have P1 : Hid (pointsM (cts l) id = ([], 13)) := Lib.hid (by rw [PE.out, if_neg q1', if_neg q2'])
          have e2 : (x.c.kind == 2) = false := by simp; exact fun e => q2' (.inl e)
          have e3 : (x.c.kind == 3) = false := by simp; exact fun e => q2' (.inr e)
          clear PE
          go_wp2_with fail
          go_ret2
          exact ERR.out _ 13 WY.out P1.out
end Go.Proofs.YtlejeelmlclnkaaGreatDoor
