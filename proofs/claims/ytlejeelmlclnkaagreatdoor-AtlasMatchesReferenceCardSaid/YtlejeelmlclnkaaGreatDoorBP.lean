/- WALK: atlas.Drop. -/
import Derived.Test.YtlejeelmlclnkaaGreatDoorBO
set_option linter.unusedSimpArgs false
set_option linter.unusedVariables false
namespace Go.Proofs.YtlejeelmlclnkaaGreatDoor
open Go.RowKit

def dropM (l : List At.Ob) (id : Tx) : List At.Ob × Nat := if At.validM l then (if At.has l id then (At.dropF l id, 0) else ([], 11)) else ([], 1)
set_option maxHeartbeats 4000000 in
set_option maxRecDepth 100000 in
theorem drop_any (A : Option Addr) (n c : Nat) (l : List RO) (id : Tx) (w : World) (hn : n = l.length) (h : Ms w A l) :
    Calls Tryz.prog 29 #[.agg #[.slice A n c], .string (mkB id)] w (MapE w (dropM (cts l) id)) := by
  have hl : n ≤ 100000 := by rw [hn]; exact h.len
  have PM : Hid (dropM (cts l) id = if At.validM (cts l) then (if At.has (cts l) id then (At.dropF (cts l) id, 0) else ([], 11)) else ([], 1)) := Lib.hid rfl
  have ERR : Hid (∀ (w1 : World) (k : Nat), Below w.heap.size w w1 → dropM (cts l) id = ([], k) → MapE w (dropM (cts l) id) (.returned (.tuple #[.agg #[.slice none 0 0], .int .i64 (k : Int)])) w1) := Lib.hid (fun w1 k hb e => by
    rw [e]; exact ⟨none, 0, [], rfl, Ms.nil _, rfl, Nat.le_refl _, hb⟩)
  obtain ⟨X, hX⟩ : ∃ X, X = ((w.alloc (.cells #[.slice A n c] 24)).alloc (.cells #[.slice none 0 0] 24)).alloc (.cells #[.slice A n c] 24) := ⟨_, rfl⟩
  have BX : Below w.heap.size w X := by rw [hX]; exact (((Below.refl _ _).alloc (Nat.le_refl _) _).alloc (by first | (simp; done) | (simp; omega)) _).alloc (by first | (simp; done) | (simp; omega)) _
  have X0 : X.heap[w.heap.size]? = some (.cells #[.slice A n c] 24 (0, 0)) := by rw [hX]; exact (alloc_old _ _ (by first | (simp; done) | (simp; omega))).trans ((alloc_old _ _ (by first | (simp; done) | (simp; omega))).trans (heap_alloc_new w _))
  have X2 : X.heap[w.heap.size + 1]? = some (.cells #[.slice none 0 0] 24 (0, 0)) := by rw [hX]; exact (alloc_old _ _ (by first | (simp; done) | (simp; omega))).trans (alloc_new' _ _ _ (by first | (simp; done) | (simp; omega)))
  have X3 : X.heap[w.heap.size + 1 + 1]? = some (.cells #[.slice A n c] 24 (0, 0)) := by rw [hX]; exact alloc_new' _ _ _ (by first | (simp; done) | (simp; omega))
  have XZ : X.heap.size = w.heap.size + 3 := by rw [hX]; simp
  have CF : Hid (∀ u, Below X.heap.size X u → u.cell? ⟨w.heap.size, 0, none⟩ = some (.slice A n c) ∧ u.cell? ⟨w.heap.size + 1, 0, none⟩ = some (.slice none 0 0) ∧ u.frozen? ⟨w.heap.size + 1, 0, none⟩ = false) := Lib.hid (fun u hu => by
    have h0 := (hu.block w.heap.size (by omega)).trans X0
    have h2 := (hu.block (w.heap.size + 1) (by omega)).trans X2
    exact ⟨cell_of_row u _ 0 _ _ _ h0, cell_of_row u _ 0 _ _ _ h2, free_blk h2 0⟩)
  have ZF : Hid (∀ u, Below X.heap.size X u → (loadVar 24 ⟨w.heap.size + 1, 0, none⟩).run Tryz.prog (u.setCell ⟨w.heap.size + 1, 0, none⟩ (.slice none 0 0)) = .ok (.agg #[.slice none 0 0]) (u.setCell ⟨w.heap.size + 1, 0, none⟩ (.slice none 0 0)) ∧ Hid (Below w.heap.size w (u.setCell ⟨w.heap.size + 1, 0, none⟩ (.slice none 0 0)))) := Lib.hid (fun u hu => by
    have h2 := (hu.block (w.heap.size + 1) (by omega)).trans X2
    exact ⟨load_map (one_setCell h2), Lib.hid ((BX.trans (Below.mono hu BX.size)).setCell (by show w.heap.size ≤ w.heap.size + 1; omega) _)⟩)
  have R4 : Hid (∀ u, Below X.heap.size X u → u.heap[w.heap.size + 1]? = some (.cells #[.slice none 0 0] 24 (0, 0))) := Lib.hid (fun u hu => (hu.block (w.heap.size + 1) (by omega)).trans X2)
  have VD := Lib.hid (valids_any (some ⟨w.heap.size + 1 + 1, 0, none⟩) 1 1 [⟨A, c, l⟩] X rfl (by omega) (Rd.of_row X3 (by rw [hn]; exact List.prefix_refl _)) (fun m hm => by rw [List.mem_singleton.1 hm]; exact h.below BX))
  have AV : allV [⟨A, c, l⟩] = At.validM (cts l) := by simp [allV]
  rw [AV] at VD
  have HB := Lib.hid BX
  have HM := Lib.hid h
  have HN := Lib.hid hn
  have k0 := cell_of_row X w.heap.size 0 _ _ _ X0
  simp at k0
  clear X0 X2 X3 BX h hn AV
  go_enter Tryz.func29, Tryz.ntmps29
  go_wp2_with fail
  try rw [← hX]
  clear hX
  refine VD.out.mono ?_
  rintro e u1 ⟨rfl, b1⟩
  have B1 := Lib.hid (show Below X.heap.size X u1 from b1)
  clear b1 VD k0
  obtain ⟨k0, m0, fz⟩ := CF.out u1 B1.out
  cases hV : At.validM (cts l)
  · have PE : Hid (dropM (cts l) id = ([], 1)) := Lib.hid (by rw [PM.out, hV]; rfl)
    obtain ⟨LZ, BZ⟩ := ZF.out u1 B1.out
    go_wp2_with fail
    refine bodyPost_ret (results_cell2 (i := 4) (j := 5) rfl rfl LZ rfl) rfl ?_
    exact ERR.out _ 1 BZ.out PE.out
  · have SR : Hid (At.Srt (cts l)) := Lib.hid (At.validM_iff.1 hV).1
    have W1 := Lib.hid (HB.out.trans (Below.mono B1.out HB.out.size))
    have AD := Lib.hid (at_any A n c l id u1 HN.out SR.out (HM.out.below W1.out))
    clear m0 fz
    go_wp2_with fail
    refine AD.out.mono ?_
    rintro e u3 ⟨rfl, b3⟩
    have B3 := Lib.hid (B1.out.trans (b3.mono B1.out.size))
    have W3 := Lib.hid (HB.out.trans (Below.mono B3.out HB.out.size))
    clear b3 AD B1 W1 k0
    obtain ⟨k0, m0, fz⟩ := CF.out u3 B3.out
    cases hH : At.has (cts l) id
    · have PE : Hid (dropM (cts l) id = ([], 11)) := Lib.hid (by rw [PM.out, hV, hH]; rfl)
      obtain ⟨LZ, BZ⟩ := ZF.out u3 B3.out
      go_wp2_with fail
      refine bodyPost_ret (results_cell2 (i := 4) (j := 5) rfl rfl LZ rfl) rfl ?_
      exact ERR.out _ 11 BZ.out PE.out
    · obtain ⟨z, LN⟩ : ∃ z, At.look (cts l) id = some z := by unfold At.has at hH; cases k : At.look (cts l) id with | none => rw [k] at hH; cases hH | some z => exact ⟨z, rfl⟩
      obtain ⟨hp, -⟩ := At.get_pos SR.out LN
      rw [cts_len] at hp
      have PE : Hid (dropM (cts l) id = (At.dropF (cts l) id, 0)) := Lib.hid (by rw [PM.out, hV, hH]; rfl)
      have PF : Hid (At.dropF (cts l) id = cts (l.take (At.pos (cts l) id) ++ l.drop (At.pos (cts l) id + 1))) := Lib.hid (by rw [At.drop_pos_has SR.out LN, cts_del])
      generalize At.pos (cts l) id = p at *
      have hpn : p < n := by rw [HN.out]; exact hp
      have w1 : IntKind.i64.wrap ((p : Int) + 1) = (p : Int) + 1 := IntWalk.i64_in _ (by omega)
      have CD := Lib.hid (clone_any A n c l u3 HN.out (HM.out.below W3.out))
      clear m0 fz
      go_wp2_with fail
      refine CD.out.mono ?_
      rintro e u4 ⟨v4, rfl, o4, b4⟩
      have B4 := Lib.hid (B3.out.trans (b4.mono B3.out.size))
      have W4 := Lib.hid (HB.out.trans (Below.mono B4.out HB.out.size))
      have Z3 := B3.out.size
      have Z34 := b4.size
      have DE := Lib.hid (delete_any u3.heap.size p l.length v4 l u4 rfl hp (by have := HN.out; omega) o4 (fun r hr => (HM.out.ob r hr).below W4.out))
      clear b4 CD o4
      go_wp2_with fail
      refine DE.out.mono ?_
      rintro e u5 ⟨v5, rfl, o5, b5⟩
      have r4 := (b5.block (w.heap.size + 1) (by omega)).trans (R4.out u4 B4.out)
      have FIN := MapE_fin1 (w := w) (u := u5) (b4 := w.heap.size + 1) (v := v5) (R := l.take p ++ l.drop (p + 1)) (n := l.length - 1) (base := u3.heap.size) o5 (by rw [List.length_append, List.length_take, List.length_drop]; omega) r4 (own_ne_map o5 r4) (by omega) (W4.out.trans (Below.mono b5 (by omega))) (fun r hr => by
        rcases List.mem_append.1 hr with h1 | h1
        · exact ⟨HM.out.ob r (List.mem_of_mem_take h1), HM.out.sz r (List.mem_of_mem_take h1)⟩
        · exact ⟨HM.out.ob r (List.mem_of_mem_drop h1), HM.out.sz r (List.mem_of_mem_drop h1)⟩) (by rw [List.length_append, List.length_take, List.length_drop]; have := HN.out; omega)
      rw [← PF.out, ← PE.out] at FIN
      obtain ⟨A5, c5, hv5, -⟩ := own_sl o5
      subst hv5
      have FINH := Lib.hid FIN
      have g4 := cell_of_row u5 (w.heap.size + 1) 0 _ _ _ r4
      have z4 := free_blk r4 0
      simp at g4
      clear b5 r4 o5 FIN DE
      go_wp2_with fail
      refine bodyPost_ret (results_cell2 (i := 4) (j := 5) rfl rfl FINH.out.1 rfl) rfl ?_
      exact FINH.out.2
end Go.Proofs.YtlejeelmlclnkaaGreatDoor
