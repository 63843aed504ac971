/- WALKS: atlas.Digest. -/
import Derived.Test.YtlejeelmlclnkaaGreatDoorCF
set_option linter.unusedSimpArgs false
set_option linter.unusedVariables false
namespace Go.Proofs.YtlejeelmlclnkaaGreatDoor
open Go.RowKit

def digestM (l : List At.Ob) : Tx := if At.validM l then Dg.sumL (Dg.joined (l.map digestF)) else []
theorem digestF_len (o : At.Ob) : (digestF o).length ≤ 16 := by
  unfold digestF
  split
  · have := Dg.sumL_isD (Dg.joined (fieldsL o))
    unfold Dg.isD at this
    simp only [Bool.and_eq_true, decide_eq_true_eq, beq_iff_eq] at this
    omega
  · simp
set_option maxHeartbeats 4000000 in
set_option maxRecDepth 100000 in
theorem adigest_any (A : Option Addr) (n c : Nat) (l : List RO) (w : World) (hn : n = l.length) (hl3 : n ≤ 3000) (h : Ms w A l) (ht : Tab w) :
    Calls Tryz.prog 19 #[.agg #[.slice A n c]] w fun e w' => e = .returned (.string (mkB (digestM (cts l)))) ∧ Below w.heap.size w w' := by
  have hl : n ≤ 100000 := by rw [hn]; exact h.len
  have HL3 := Lib.hid hl3
  clear hl3
  have PM : Hid (digestM (cts l) = if At.validM (cts l) then Dg.sumL (Dg.joined ((cts l).map digestF)) else []) := Lib.hid rfl
  have HT := Lib.hid ht
  have te := mkB_tl []
  have em : (ByteArray.mk #[]) = mkB [] := rfl
  obtain ⟨X, hX⟩ : ∃ X, X = (w.alloc (.cells #[.slice A n c] 24)).alloc (.cells #[.slice A n c] 24) := ⟨_, rfl⟩
  have BX : Below w.heap.size w X := by rw [hX]; exact ((Below.refl _ _).alloc (Nat.le_refl _) _).alloc (by first | (simp; done) | (simp; omega)) _
  have X0 : X.heap[w.heap.size]? = some (.cells #[.slice A n c] 24 (0, 0)) := by rw [hX]; exact (alloc_old _ _ (by first | (simp; done) | (simp; omega))).trans (heap_alloc_new w _)
  have X3 : X.heap[w.heap.size + 1]? = some (.cells #[.slice A n c] 24 (0, 0)) := by rw [hX]; exact alloc_new' _ _ _ (by first | (simp; done) | (simp; omega))
  have XZ : X.heap.size = w.heap.size + 2 := by rw [hX]; simp
  have VD := Lib.hid (valids_any (some ⟨w.heap.size + 1, 0, none⟩) 1 1 [⟨A, c, l⟩] X rfl (by omega) (Rd.of_row X3 (by rw [hn]; exact List.prefix_refl _)) (fun m hm => by rw [List.mem_singleton.1 hm]; exact h.below BX))
  have AV : allV [⟨A, c, l⟩] = At.validM (cts l) := by simp [allV]
  rw [AV] at VD
  have HB := Lib.hid BX
  have H0 := Lib.hid X0
  have HM := Lib.hid h
  have HN := Lib.hid hn
  clear X0 X3 BX h hn AV ht
  go_enter Tryz.func19, Tryz.ntmps19
  go_wp2_with fail
  try rw [← hX]
  clear hX
  refine VD.out.mono ?_
  rintro e u1 ⟨rfl, b1⟩
  have B1 := Lib.hid (HB.out.trans (Below.mono b1 HB.out.size))
  have k0 := cell_of_row u1 w.heap.size 0 _ _ _ ((b1.block _ (by omega)).trans H0.out)
  simp at k0
  clear b1 VD
  cases hV : At.validM (cts l)
  · have PE : Hid (digestM (cts l) = []) := Lib.hid (by rw [PM.out, hV]; rfl)
    go_wp2_with fail
    go_ret
    exact ⟨by rw [PE.out]; rfl, B1.out⟩
  · have PE : Hid (digestM (cts l) = Dg.sumL (Dg.joined ((cts l).map digestF))) := Lib.hid (by rw [PM.out, hV]; rfl)
    have ST : Hid (u1.ownsRow w.heap.size 9 1 (.slice none 0 0) ((cts (l.take 0)).map digestF).length (strsC ((cts (l.take 0)).map digestF))) := Lib.hid (World.ownsRow_nil _ _ _ _)
    clear PM
    go_wp2_with fail
    go_loopw [3, 5, 13] (fun s5 s7 s15 wr => ∃ k : Nat, k ≤ n ∧ s15 = .int .i64 (k : Int) ∧ (∃ p, s7 = p) ∧ Hid (wr.ownsRow w.heap.size 9 1 s5 ((cts (l.take k)).map digestF).length (strsC ((cts (l.take k)).map digestF))) ∧ Hid (Below w.heap.size w wr)) (fun _ _ i _ => n - (intOf i).toNat)
    case atStart => exact ⟨0, Nat.zero_le _, rfl, ⟨_, rfl⟩, ST, B1⟩
    case round =>
      clear ST B1 k0
      obtain ⟨k, hk, rfl, ⟨p7, rfl⟩, OW, BL⟩ := hrel
      by_cases hlt : k < n
      · have hkl : k < l.length := by rw [← HN.out]; exact hlt
        have d1 : (k : Int) < (n : Int) := by omega
        have d2 : (0 : Int) ≤ (k : Int) := by omega
        obtain ⟨b, off, rfl, hb, c0, c1, c2, c3, c4, c5⟩ := ros_at (HM.out.rd.below BL.out) hkl
        have HO := HM.out.ob l[k] (List.getElem_mem hkl)
        have SZ := HM.out.sz l[k] (List.getElem_mem hkl)
        have TK : Hid ((cts (l.take (k + 1))).map digestF = (cts (l.take k)).map digestF ++ [digestF l[k].c]) := Lib.hid (by
          rw [List.take_succ_eq_append_getElem hkl]; unfold cts; rw [List.map_append, List.map_append]; rfl)
        have LE : ((cts (l.take k)).map digestF).length ≤ k := by rw [List.length_map, cts_len, List.length_take]; omega
        generalize (cts (l.take k)).map digestF = L at *
        generalize l[k] = x at *
        obtain ⟨A1, q1, v1, r1⟩ := HO.rs
        obtain ⟨A2, q2, v2, -⟩ := HO.ts
        rw [v1] at c4
        rw [v2] at c5
        have BX : Hid (Below wr.heap.size wr (wr.alloc (.cells #[.string (mkB x.c.id), .int .i64 x.c.kind, .int .i64 x.c.x, .int .i64 x.c.y, .slice A1 x.c.refs.length q1, .slice A2 x.c.tags.length q2] 43))) := Lib.hid ((Below.refl _ _).alloc (Nat.le_refl _) _)
        have XX := Lib.hid (heap_alloc_new wr (.cells #[.string (mkB x.c.id), .int .i64 x.c.kind, .int .i64 x.c.x, .int .i64 x.c.y, .slice A1 x.c.refs.length q1, .slice A2 x.c.tags.length q2] 43))
        have CT : Hid (∀ u, Below wr.heap.size wr u → Calls Tryz.prog 55 #[roA x] u fun e w' => e = .returned (.string (mkB (digestF x.c))) ∧ Below u.heap.size u w') := Lib.hid (fun u hu => odigest_any x u (HO.below (BL.out.trans (Below.mono hu BL.out.size))) SZ.1 SZ.2 (HT.out.keep (BL.out.trans (Below.mono hu BL.out.size))))
        unfold roA at CT
        rw [v1, v2] at CT
        clear HO SZ v1 v2 r1
        go_wp2_with fail
        refine (CT.out _ BX.out).mono ?_
        rintro e w1 ⟨rfl, b1⟩
        have B1 := Lib.hid (BX.out.trans (b1.mono BX.out.size))
        have B2 := Lib.hid (BL.out.trans (Below.mono B1.out BL.out.size))
        have x1c := (b1.block wr.heap.size (by simp)).trans XX.out
        have z0 := cell_of_row w1 wr.heap.size 0 _ _ _ x1c
        have zs : wr.heap.size < w1.heap.size := Nat.lt_of_lt_of_le (by simp) b1.size
        have O1 := Lib.hid (own_same OW.out (fun g hg => B1.out.block g (OW.out.lt g hg).2))
        simp at z0
        clear b1 x1c XX BX B1 CT c0 c1 c2 c3 c4 c5 OW
        have bz := B2.out.size
        go_wp2_with (at_builtin; refine wpList_appN rfl (.tmp 17) (.tmp 20) 40 rfl Tryz.underlying40 info_str rfl (by decide) w.heap.size _ L.length (strsC L) _ 1 (by decide) rfl (by intro y hy; simp at hy; rw [hy]; rfl) rfl rfl rfl O1.out bz (by omega) (by omega) ?_; intro g7 c7 w7 ho7 hg7 hl7 hb7)
        refine ⟨⟨k + 1, by omega, by go_num, ⟨_, rfl⟩, ?_, Lib.hid (B2.out.trans hb7)⟩, by simp [intOf]; omega⟩
        rw [TK.out, List.length_append, strsC_app]
        exact Lib.hid ho7
      · have d1 : ¬ (k : Int) < (n : Int) := by omega
        have TT : Hid (l.take k = l) := Lib.hid (List.take_of_length_le (by rw [← HN.out]; omega))
        rw [TT.out] at OW
        obtain ⟨LD, hLD⟩ : ∃ LD, LD = (cts l).map digestF := ⟨_, rfl⟩
        have HLD := Lib.hid hLD
        rw [← hLD] at OW PE
        clear hLD TT
        obtain ⟨A5, c5, hv5, hr5⟩ := own_sl OW.out
        subst hv5
        have DL := Lib.hid (dlist_any A5 _ c5 LD wr rfl (by rw [HLD.out, List.length_map, cts_len, ← HN.out]; exact HL3.out) (fun s hs => by
          rw [HLD.out] at hs
          obtain ⟨o, -, rfl⟩ := List.mem_map.1 hs
          have := digestF_len o; omega) (HT.out.keep BL.out) hr5)
        clear hr5 OW
        go_wp2_with fail
        refine DL.out.mono ?_
        rintro e w9 ⟨rfl, b9⟩
        have B9 := Lib.hid (BL.out.trans (Below.mono b9 BL.out.size))
        clear b9 DL
        go_wp2_with fail
        go_ret
        exact ⟨by rw [PE.out]; rfl, B9.out⟩
end Go.Proofs.YtlejeelmlclnkaaGreatDoor
