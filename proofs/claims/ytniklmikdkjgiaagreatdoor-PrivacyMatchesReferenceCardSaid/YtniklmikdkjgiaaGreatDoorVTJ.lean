import Derived.Test.YtniklmikdkjgiaaGreatDoorCTI
import Derived.Test.YtniklmikdkjgiaaGreatDoorVXO
set_option linter.all false
set_option maxHeartbeats 16000000
set_option maxRecDepth 100000
namespace Go.Proofs.YtniklmikdkjgiaaGreatDoor
open Go.RowKit
theorem bare27_any (r : RV) (w : World) (h : RvIs w r) :
  Calls Tryz.prog 55 #[rvA r] w fun e w' => e = .returned (rvA (bareR r)) ∧ Below w.heap.size w w' := by
 obtain ⟨A0, c0, A1, c1, A2, c2, A3, c3, A4, c4, A5, c5, A6, c6, A7, c7, hv, v0, v1, v2, v3, -, -, -, -⟩ := rv_open h
 have hb : rvA (bareR r) = .agg #[.int .i64 r.kind, .int .i64 r.author, .int .i64 r.number, .int .i64 r.clock, .string (mkB r.branch), .slice A0 r.parents.length c0, .slice A1 r.edits.length c1, .string (mkB r.target), .bool r.yes, .int .i64 r.order, .string (mkB r.frm), .int .i64 r.sla.index, .slice A2 r.sla.sig.length c2, .slice A3 r.sla.path.length c3, .string ⟨#[]⟩, .string ⟨#[]⟩, .slice none 0 0, .slice none 0 0, .int .i64 0, .slice none 0 0, .slice none 0 0] := by unfold rvA rvL bareR; dsimp only; rw [v0, v1, v2, v3]; rfl
 rw [hb]
 unfold rvA
 rw [hv]
 clear h hv hb v0 v1 v2 v3
 obtain ⟨W, hW⟩ : ∃ W, W = (w.alloc (.cells #[.int .i64 r.kind, .int .i64 r.author, .int .i64 r.number, .int .i64 r.clock, .string (mkB r.branch), .slice A0 r.parents.length c0, .slice A1 r.edits.length c1, .string (mkB r.target), .bool r.yes, .int .i64 r.order, .string (mkB r.frm), .int .i64 r.sla.index, .slice A2 r.sla.sig.length c2, .slice A3 r.sla.path.length c3, .string ⟨#[]⟩, .string ⟨#[]⟩, .slice none 0 0, .slice none 0 0, .int .i64 0, .slice none 0 0, .slice none 0 0] 56)).alloc (.cells #[.int .i64 0, .int .i64 0, .int .i64 0, .int .i64 0, .string ⟨#[]⟩, .slice none 0 0, .slice none 0 0, .string ⟨#[]⟩, .bool false, .int .i64 0, .string ⟨#[]⟩, .int .i64 0, .slice none 0 0, .slice none 0 0, .string ⟨#[]⟩, .string ⟨#[]⟩, .slice none 0 0, .slice none 0 0, .int .i64 0, .slice none 0 0, .slice none 0 0] 56) := ⟨_, rfl⟩
 have HX : W.heap[w.heap.size]? = some (.cells #[.int .i64 r.kind, .int .i64 r.author, .int .i64 r.number, .int .i64 r.clock, .string (mkB r.branch), .slice A0 r.parents.length c0, .slice A1 r.edits.length c1, .string (mkB r.target), .bool r.yes, .int .i64 r.order, .string (mkB r.frm), .int .i64 r.sla.index, .slice A2 r.sla.sig.length c2, .slice A3 r.sla.path.length c3, .string ⟨#[]⟩, .string ⟨#[]⟩, .slice none 0 0, .slice none 0 0, .int .i64 0, .slice none 0 0, .slice none 0 0] 56 (0, 0)) := by rw [hW]; exact (alloc_old _ _ (by simp)).trans (heap_alloc_new w _)
 have HY : W.heap[w.heap.size + 1]? = some (.cells #[.int .i64 0, .int .i64 0, .int .i64 0, .int .i64 0, .string ⟨#[]⟩, .slice none 0 0, .slice none 0 0, .string ⟨#[]⟩, .bool false, .int .i64 0, .string ⟨#[]⟩, .int .i64 0, .slice none 0 0, .slice none 0 0, .string ⟨#[]⟩, .string ⟨#[]⟩, .slice none 0 0, .slice none 0 0, .int .i64 0, .slice none 0 0, .slice none 0 0] 56 (0, 0)) := by rw [hW]; exact alloc_new' _ _ _ (by simp)
 have BW : Below w.heap.size w W := by rw [hW]; exact ((Below.refl _ _).alloc (Nat.le_refl _) _).alloc (by simp) _
 go_enter Tryz.func55, Tryz.ntmps55
 go_upto_region 2 with fail
 rw [← hW]
 clear hW
 refine wp_region_lit ?_
 refine wpList_load_mid rfl 56 (.tmp 1) rfl w.heap.size 0 rfl [.int .i64 r.kind, .int .i64 r.author, .int .i64 r.number, .int .i64 r.clock, .string (mkB r.branch), .slice A0 r.parents.length c0, .slice A1 r.edits.length c1, .string (mkB r.target), .bool r.yes, .int .i64 r.order, .string (mkB r.frm), .int .i64 r.sla.index, .slice A2 r.sla.sig.length c2, .slice A3 r.sla.path.length c3, .string ⟨#[]⟩, .string ⟨#[]⟩, .slice none 0 0, .slice none 0 0, .int .i64 0, .slice none 0 0, .slice none 0 0] _ (range_of_row HX) Tryz.underlying56 rfl (by kernel_rfl) ?_
 refine wpList_store_mid rfl 56 (.tmp 2) (.tmp 5) rfl (w.heap.size + 1) 0 #[.int .i64 r.kind, .int .i64 r.author, .int .i64 r.number, .int .i64 r.clock, .string (mkB r.branch), .slice A0 r.parents.length c0, .slice A1 r.edits.length c1, .string (mkB r.target), .bool r.yes, .int .i64 r.order, .string (mkB r.frm), .int .i64 r.sla.index, .slice A2 r.sla.sig.length c2, .slice A3 r.sla.path.length c3, .string ⟨#[]⟩, .string ⟨#[]⟩, .slice none 0 0, .slice none 0 0, .int .i64 0, .slice none 0 0, .slice none 0 0] rfl rfl (there_of_row HY (Nat.le_refl _)) (by kernel_rfl) (by simp [Value.oneCell']) ?_
 have RG := range_setCells (cs := #[.int .i64 r.kind, .int .i64 r.author, .int .i64 r.number, .int .i64 r.clock, .string (mkB r.branch), .slice A0 r.parents.length c0, .slice A1 r.edits.length c1, .string (mkB r.target), .bool r.yes, .int .i64 r.order, .string (mkB r.frm), .int .i64 r.sla.index, .slice A2 r.sla.sig.length c2, .slice A3 r.sla.path.length c3, .string ⟨#[]⟩, .string ⟨#[]⟩, .slice none 0 0, .slice none 0 0, .int .i64 0, .slice none 0 0, .slice none 0 0]) HY rfl
 have BB := below_setCells (w' := W) (w.heap.size + 1) [.int .i64 r.kind, .int .i64 r.author, .int .i64 r.number, .int .i64 r.clock, .string (mkB r.branch), .slice A0 r.parents.length c0, .slice A1 r.edits.length c1, .string (mkB r.target), .bool r.yes, .int .i64 r.order, .string (mkB r.frm), .int .i64 r.sla.index, .slice A2 r.sla.sig.length c2, .slice A3 r.sla.path.length c3, .string ⟨#[]⟩, .string ⟨#[]⟩, .slice none 0 0, .slice none 0 0, .int .i64 0, .slice none 0 0, .slice none 0 0] 0 W BW (by omega)
 have ZZ : (W.setCells (w.heap.size + 1) 0 (#[.int .i64 r.kind, .int .i64 r.author, .int .i64 r.number, .int .i64 r.clock, .string (mkB r.branch), .slice A0 r.parents.length c0, .slice A1 r.edits.length c1, .string (mkB r.target), .bool r.yes, .int .i64 r.order, .string (mkB r.frm), .int .i64 r.sla.index, .slice A2 r.sla.sig.length c2, .slice A3 r.sla.path.length c3, .string ⟨#[]⟩, .string ⟨#[]⟩, .slice none 0 0, .slice none 0 0, .int .i64 0, .slice none 0 0, .slice none 0 0] : Array Value).toList) = W.setCells (w.heap.size + 1) 0 [.int .i64 r.kind, .int .i64 r.author, .int .i64 r.number, .int .i64 r.clock, .string (mkB r.branch), .slice A0 r.parents.length c0, .slice A1 r.edits.length c1, .string (mkB r.target), .bool r.yes, .int .i64 r.order, .string (mkB r.frm), .int .i64 r.sla.index, .slice A2 r.sla.sig.length c2, .slice A3 r.sla.path.length c3, .string ⟨#[]⟩, .string ⟨#[]⟩, .slice none 0 0, .slice none 0 0, .int .i64 0, .slice none 0 0, .slice none 0 0] := rfl
 rw [ZZ] at RG ⊢
 generalize W.setCells (w.heap.size + 1) 0 [.int .i64 r.kind, .int .i64 r.author, .int .i64 r.number, .int .i64 r.clock, .string (mkB r.branch), .slice A0 r.parents.length c0, .slice A1 r.edits.length c1, .string (mkB r.target), .bool r.yes, .int .i64 r.order, .string (mkB r.frm), .int .i64 r.sla.index, .slice A2 r.sla.sig.length c2, .slice A3 r.sla.path.length c3, .string ⟨#[]⟩, .string ⟨#[]⟩, .slice none 0 0, .slice none 0 0, .int .i64 0, .slice none 0 0, .slice none 0 0] = W3 at *
 have LV := run_loadVar_mid (P := Tryz.prog) W3 (w.heap.size + 1) 0 56 [.int .i64 r.kind, .int .i64 r.author, .int .i64 r.number, .int .i64 r.clock, .string (mkB r.branch), .slice A0 r.parents.length c0, .slice A1 r.edits.length c1, .string (mkB r.target), .bool r.yes, .int .i64 r.order, .string (mkB r.frm), .int .i64 r.sla.index, .slice A2 r.sla.sig.length c2, .slice A3 r.sla.path.length c3, .string ⟨#[]⟩, .string ⟨#[]⟩, .slice none 0 0, .slice none 0 0, .int .i64 0, .slice none 0 0, .slice none 0 0] _ RG Tryz.underlying56 rfl (by kernel_rfl)
 clear RG HX HY BW ZZ
 go_simp
 go_wp2_with fail
 exact bodyPost_ret (v := .agg #[.int .i64 r.kind, .int .i64 r.author, .int .i64 r.number, .int .i64 r.clock, .string (mkB r.branch), .slice A0 r.parents.length c0, .slice A1 r.edits.length c1, .string (mkB r.target), .bool r.yes, .int .i64 r.order, .string (mkB r.frm), .int .i64 r.sla.index, .slice A2 r.sla.sig.length c2, .slice A3 r.sla.path.length c3, .string ⟨#[]⟩, .string ⟨#[]⟩, .slice none 0 0, .slice none 0 0, .int .i64 0, .slice none 0 0, .slice none 0 0]) (results_cell1 (i := 2) (t := 56) rfl rfl LV) rfl ⟨rfl, BB⟩
theorem req49_any (r : RV) (w : World) (h : RvIs w r) (hs : RcSz r.c) :
  Calls Tryz.prog 96 #[rvA r] w fun en w' => en = .returned (.bool (reqB r.c)) ∧ Below w.heap.size w w' := by
 have HR : Hid (reqB r.c = (decide (r.kind = 5) && validR (bareC r.c))) := Lib.hid rfl
 have BB0 := fun u (hu : Below w.heap.size w u) => bare27_any r u (h.below hu)
 have VA0 : Hid (∀ u, Below w.heap.size w u → Calls Tryz.prog 105 #[rvA (bareR r)] u fun en w' => en = .returned (.bool (validR (bareC r.c))) ∧ Below u.heap.size u w') := Lib.hid (fun u hu => by
  have := rv27_any (bareR r) u (bareR_is (h.below hu)) (bareR_sz hs)
  rwa [bareR_c] at this)
 unfold rvA at *
 obtain ⟨X, hX⟩ : ∃ X, X = w.alloc (.cells (rvL r).toArray 56) := ⟨_, rfl⟩
 obtain ⟨bx, hbx⟩ : ∃ bx, w.heap.size = bx := ⟨_, rfl⟩
 have BX : Below w.heap.size w X := by rw [hX]; exact (Below.refl _ _).alloc (Nat.le_refl _) _
 have XX : X.heap[bx]? = some (.cells (rvL r).toArray 56 (0, 0)) := by rw [hX, ← hbx]; exact heap_alloc_new w _
 have RX : Hid (X.rangeAt bx 0 (rvL r)) := Lib.hid (by have := range_of_row XX; simpa using this)
 have c0 : X.cell? ⟨bx, 0, none⟩ = some (.int .i64 r.kind) := by have := RX.out 0 _ rfl; simpa using this
 have BB := Lib.hid (BB0 X BX)
 have BH := Lib.hid BX
 have X0 := Lib.hid hX
 have X1 := Lib.hid hbx
 have SZ : (Tryz.prog.info? 56).map (·.size) = some (rvL r).length := by kernel_rfl
 generalize reqB r.c = R at *
 clear h hs hX hbx BX XX BB0
 go_enter Tryz.func96, Tryz.ntmps96
 go_upto_region 1 with fail
 rw [← X0.out, X1.out]
 clear X0 X1
 by_cases h5 : r.kind = 5
 ·have e5 : (r.kind == 5) = true := by rw [h5]; rfl
  have HR2 := Lib.hid (HR.out.trans (by rw [decide_eq_true h5, Bool.true_and]))
  clear h5 HR
  go_wp2_with (refine wpList_load_midG (by simp [Region.wanted, yielded]; done) 56 (.tmp 1) rfl bx 0 rfl (rvL r) _ RX.out Tryz.underlying56 rfl SZ ?_)
  (with_reducible refine BB.out.mono ?_)
  rintro e u1 ⟨rfl, b1⟩
  have B1 := Lib.hid (BH.out.trans (b1.mono BH.out.size))
  have VA := Lib.hid (VA0.out u1 B1.out)
  generalize Value.agg (rvL (bareR r)).toArray = bv at *
  clear b1 BB RX SZ c0 VA0 BH
  go_wp2_with fail
  (with_reducible refine VA.out.mono ?_)
  rintro e u2 ⟨rfl, b2⟩
  have B2 := Lib.hid (B1.out.trans (b2.mono B1.out.size))
  clear b2 VA B1
  go_wp2_with fail
  go_ret
  exact ⟨by rw [HR2.out]; rfl, B2.out⟩
 ·have e5 : (r.kind == 5) = false := by simpa using h5
  have HR2 : Hid (R = false) := Lib.hid (HR.out.trans (by rw [decide_eq_false h5, Bool.false_and]))
  clear h5 HR
  go_wp2_with fail
  go_ret
  exact ⟨by rw [HR2.out]; rfl, BH.out⟩
def ask49 (L : List Rc) (i : Int) : Bool := L.any fun c => decide (c.author = i) && reqB c
theorem ask49_flag (L : List Rc) (i : Int) : ask49 L i = flagOf L i := by
 rw [Bool.eq_iff_iff]
 unfold ask49 flagOf askB
 simp only [List.any_eq_true, Bool.and_eq_true, decide_eq_true_eq]
 constructor
 ·rintro ⟨c, hc, ha, hr⟩
  have hv : validR (bareC c) = true := by
   have := hr; unfold reqB at this; rw [Bool.and_eq_true] at this; exact this.2
  have := valid_author hv
  exact ⟨⟨by omega, by omega⟩, c, hc, hr, by omega⟩
 ·rintro ⟨⟨h0, h1⟩, c, hc, hr, ha⟩
  exact ⟨c, hc, by omega, hr⟩
theorem asked49_any (A : Option Addr) (n c : Nat) (l : List RV) (m : Int) (w : World) (hn : n = l.length) (h : Rs w A l) :
  Calls Tryz.prog 50 #[.slice A n c, .int .i64 m] w fun e w' => e = .returned (.bool (flagOf (rcsC l) m)) ∧ Below w.heap.size w w' := by
 have H := Lib.hid h
 have HN := Lib.hid hn
 have hl : n ≤ 100000 := by rw [hn]; exact h.len
 obtain ⟨R, hR⟩ : ∃ R, flagOf (rcsC l) m = R := ⟨_, rfl⟩
 have HR0 : Hid (R = (l.drop 0).any fun r => decide (r.author = m) && reqB r.c) := Lib.hid (by rw [← hR, ← ask49_flag]; unfold ask49 rcsC; rw [List.any_map]; rfl)
 rw [hR]
 have HB : Hid (Below w.heap.size w w) := Lib.hid (Below.refl _ _)
 clear hn h hR
 go_enter Tryz.func50, Tryz.ntmps50
 go_wp2_with fail
 go_loopw [5] (fun s5 wr => ∃ k : Nat, k ≤ n ∧ s5 = .int .i64 (k : Int) ∧ Hid (R = (l.drop k).any fun r => decide (r.author = m) && reqB r.c) ∧ Hid (Below w.heap.size w wr)) (fun i _ => n - (intOf i).toNat)
 case atStart => exact ⟨0, Nat.zero_le _, rfl, HR0, HB⟩
 case round =>
  clear HR0 HB
  obtain ⟨k, hkn, rfl, HR, BL⟩ := hrel
  by_cases hlt : k < n
  ·have hkl : k < l.length := by rw [← HN.out]; exact hlt
   have d1 : (k : Int) < (n : Int) := by omega
   have d2 : (0 : Int) ≤ (k : Int) := by omega
   obtain ⟨b, off, rfl, hb, hc⟩ := rvs_at (H.out.rd.below BL.out) hkl
   have HC : Hid (wr.rangeAt b (off + k * 21) (rvL l[k])) := Lib.hid (fun j v hj => hc j v hj)
   have HI := H.out.is l[k] (List.getElem_mem hkl)
   have HS := H.out.sz l[k] (List.getElem_mem hkl)
   have RK : Hid (R = ((decide (l[k].author = m) && reqB l[k].c) || (l.drop (k + 1)).any fun r => decide (r.author = m) && reqB r.c)) := Lib.hid (by rw [HR.out, List.drop_eq_getElem_cons hkl, List.any_cons])
   have RQ := Lib.hid (req49_any l[k] wr (HI.below BL.out) HS)
   have ca : wr.cell? ⟨b, off + k * 21 + 1, none⟩ = some (.int .i64 l[k].author) := hc 1 _ rfl
   unfold rvA at RQ
   clear HR hc HI HS
   generalize l[k] = r at *
   generalize reqB r.c = q at *
   have SZ : (Tryz.prog.info? 56).map (·.size) = some (rvL r).length := by kernel_rfl
   by_cases he : r.author = m
   ·have e1 : (r.author == m) = true := by rw [he]; simp
    have RK := Lib.hid (RK.out.trans (by rw [decide_eq_true he, Bool.true_and]))
    clear he
    go_wp2_with (refine wpList_load_midG (by simp [Region.wanted, yielded]; done) 56 (.tmp 22) rfl b (off + k * 21) rfl (rvL r) _ HC.out Tryz.underlying56 rfl SZ ?_)
    (with_reducible refine RQ.out.mono ?_)
    rintro en w' ⟨rfl, b1⟩
    have B1 := Lib.hid (BL.out.trans (b1.mono BL.out.size))
    clear RQ b1 HC SZ ca
    cases q
    ·have R2 : Hid (R = (l.drop (k + 1)).any fun r => decide (r.author = m) && reqB r.c) := Lib.hid (by rw [RK.out, Bool.false_or])
     clear RK
     go_wp2_with fail
     exact ⟨⟨k + 1, by omega, by go_num, R2, B1⟩, by simp [intOf]; omega⟩
    ·have RT : Hid (R = true) := Lib.hid (by rw [RK.out, Bool.true_or])
     clear RK
     go_wp2_with fail
     go_ret
     exact ⟨by rw [RT.out]; rfl, B1.out⟩
   ·have e1 : (r.author == m) = false := by simpa using he
    have R2 : Hid (R = (l.drop (k + 1)).any fun r => decide (r.author = m) && reqB r.c) := Lib.hid (RK.out.trans (by rw [decide_eq_false he, Bool.false_and, Bool.false_or]))
    clear he RK RQ
    go_wp2_with fail
    exact ⟨⟨k + 1, by omega, by go_num, R2, BL⟩, by simp [intOf]; omega⟩
  ·have d1 : ¬ (k : Int) < (n : Int) := by omega
   have RT : Hid (R = false) := Lib.hid (by rw [HR.out, List.drop_eq_nil_of_le (by rw [← HN.out]; omega)]; rfl)
   clear HR
   go_wp2_with fail
   go_ret
   exact ⟨by rw [RT.out]; rfl, BL.out⟩
theorem flag_ask (L : List Rc) {k : Nat} (hk : k < 60) : flagOf L (k : Int) = askB L k := by
 unfold flagOf
 rw [decide_eq_true (by omega : (0 : Int) ≤ (k : Int)), decide_eq_true (by omega : (k : Int) < 60)]
 rfl
theorem forgotten49_any (A : Option Addr) (n c : Nat) (l : List RV) (w : World) (hn : n = l.length) (h : Rs w A l) :
  Calls Tryz.prog 19 #[.slice A n c] w fun e w' => (∃ A' c', e = .returned (.slice A' (forgotF (rcsC l)).length c') ∧ Rd w' A' (intsL (forgotF (rcsC l)))) ∧ Below w.heap.size w w' := by
 have AA : Hid (∀ (k : Nat) (u : World), k < 60 → Below w.heap.size w u → Calls Tryz.prog 50 #[.slice A n c, .int .i64 (k : Int)] u fun e w' => e = .returned (.bool (askB (rcsC l) k)) ∧ Below u.heap.size u w') := Lib.hid (fun k u hk hu => by
  have := asked49_any A n c l (k : Int) u hn (h.below hu)
  rwa [flag_ask _ hk] at this)
 have PE : Hid (forgotF (rcsC l) = forgK (rcsC l) 60) := Lib.hid rfl
 generalize forgotF (rcsC l) = FF at *
 generalize rcsC l = L at *
 have ST : Hid (w.ownsRow w.heap.size 3 1 (.slice none 0 0) (forgK L 0).length (intsL (forgK L 0))) := Lib.hid (World.ownsRow_nil _ _ _ _)
 have B0 : Hid (Below w.heap.size w w) := Lib.hid (Below.refl _ _)
 clear hn h
 go_enter Tryz.func19, Tryz.ntmps19
 go_wp2_with fail
 go_loopw [3, 4] (fun s3 s4 wr => ∃ k : Nat, k ≤ 60 ∧ s4 = .int .i64 (k : Int) ∧ Hid (wr.ownsRow w.heap.size 3 1 s3 (forgK L k).length (intsL (forgK L k))) ∧ Hid (Below w.heap.size w wr)) (fun _ i _ => 60 - (intOf i).toNat)
 case atStart => exact ⟨0, Nat.zero_le _, rfl, ST, B0⟩
 case round =>
  clear ST B0
  obtain ⟨k, hk, rfl, OW, BL⟩ := hrel
  by_cases hlt : k < 60
  ·have d1 : (k : Int) < 60 := by omega
   have d2 : (0 : Int) ≤ (k : Int) := by omega
   have AK := Lib.hid (AA.out k wr hlt BL.out)
   have TK := Lib.hid (forgK_succ L k)
   have LE := forgK_len L k
   generalize askB L k = q at *
   generalize forgK L k = G at *
   go_wp2_with fail
   (with_reducible refine AK.out.mono ?_)
   rintro e u1 ⟨rfl, b1⟩
   have B1 := Lib.hid (BL.out.trans (b1.mono BL.out.size))
   have OW := Lib.hid (own_sameG OW.out (fun g hg => b1.block g (OW.out.lt g hg).2))
   have bz := B1.out.size
   clear b1 AK BL
   cases q
   ·have T2 := Lib.hid (TK.out.trans (by rw [if_neg (by simp), List.append_nil]))
    clear TK
    go_wp2_with fail
    exact ⟨⟨k + 1, by omega, by go_num, by rw [T2.out]; exact OW, B1⟩, by simp [intOf]; omega⟩
   ·have T2 := Lib.hid (TK.out.trans (by rw [if_pos rfl]))
    clear TK
    go_wp2_with (at_builtin; refine wpList_appNG rfl (.tmp 12) (.tmp 14) 26 rfl Tryz.underlying26 info_int rfl (by decide) w.heap.size _ G.length (intsL G) _ 1 (by decide) rfl (by intro y hy; simp at hy; rw [hy]; rfl) rfl rfl rfl OW.out bz (by omega) (by omega) ?_; intro g7 c7 w7 ho7 hg7 hl7 hb7)
    refine ⟨⟨k + 1, by omega, by go_num, ?_, Lib.hid (B1.out.trans hb7)⟩, by simp [intOf]; omega⟩
    rw [T2.out, List.length_append]
    unfold intsL at ho7 ⊢
    rw [List.map_append]
    exact Lib.hid ho7
  ·have d1 : ¬ (k : Int) < 60 := by omega
   obtain rfl : k = 60 := by omega
   rw [← PE.out] at OW
   obtain ⟨A', c', rfl, hr, -⟩ := own_slG OW.out
   have HRD := Lib.hid hr
   clear hr OW
   go_wp2_with fail
   go_ret
   first
    | exact ⟨⟨_, _, rfl, HRD.out⟩, BL.out⟩
    | exact ⟨HRD.out, BL.out⟩
    | exact ⟨⟨_, ⟨_, rfl⟩, HRD.out⟩, BL.out⟩
end Go.Proofs.YtniklmikdkjgiaaGreatDoor
namespace Go.Proofs.YtniklmikdkjgiaaGreatDoor
open Go.RowKit
theorem setCells_other {g k : Nat} (hne : k ≠ g) : ∀ (vs : List Value) (o : Nat) (u : World), (u.setCells g o vs).heap[k]? = u.heap[k]?
 | [], _, _ => rfl
 | v :: vs, o, u => (setCells_other hne vs (o + 1) (u.setCell ⟨g, o, none⟩ v)).trans (Below.heap_setCell u ⟨g, o, none⟩ v k (by exact hne))
theorem clean49_any (A : Option Addr) (n c : Nat) (l : List RV) (w : World) (hn : n = l.length) (h : Rs w A l) :
  Calls Tryz.prog 22 #[.slice A n c] w fun e w' => ∃ v, e = .returned v ∧ w'.ownsRow w.heap.size 56 21 v (cleanL (rcsC l) l).length (rvsL (cleanL (rcsC l) l)) ∧ Below w.heap.size w w' := by
 have hl : n ≤ 100000 := by rw [hn]; exact h.len
 have H := Lib.hid h
 have HN := Lib.hid hn
 have AA : Hid (∀ (m : Int) (u : World), Below w.heap.size w u → Calls Tryz.prog 50 #[.slice A n c, .int .i64 m] u fun e w' => e = .returned (.bool (flagOf (rcsC l) m)) ∧ Below u.heap.size u w') := Lib.hid (fun m u hu => asked49_any A n c l m u hn (h.below hu))
 generalize hL : rcsC l = L at *
 have SZ : ∀ x : RV, (Tryz.prog.info? 56).map (·.size) = some (rvL x).length := fun x => by kernel_rfl
 have SA : ∀ x : RV, (Tryz.prog.info? 56).map (·.size) = some (rvL x).toArray.size := fun x => by kernel_rfl
 have ST : Hid (w.ownsRow w.heap.size 56 21 (.slice none 0 0) (cleanL L (l.take 0)).length (rvsL (cleanL L (l.take 0)))) := Lib.hid (World.ownsRow_nil _ _ _ _)
 have B0 : Hid (Below w.heap.size w w) := Lib.hid (Below.refl _ _)
 clear h hn hL
 go_enter Tryz.func22, Tryz.ntmps22
 go_wp2_with fail
 go_loopw [3, 4, 5] (fun s3 s4 s5 wr => ∃ k : Nat, k ≤ n ∧ s4 = .int .i64 (k : Int) ∧ (∃ p, s5 = p) ∧ Hid (wr.ownsRow w.heap.size 56 21 s3 (cleanL L (l.take k)).length (rvsL (cleanL L (l.take k)))) ∧ Hid (Below w.heap.size w wr)) (fun _ i _ _ => n - (intOf i).toNat)
 case atStart => exact ⟨0, Nat.zero_le _, rfl, ⟨_, rfl⟩, ST, B0⟩
 case round =>
  clear ST B0
  obtain ⟨k, hk, rfl, ⟨p7, rfl⟩, OW, BL⟩ := hrel
  by_cases hlt : k < n
  ·have hkl : k < l.length := by rw [← HN.out]; exact hlt
   have d1 : (k : Int) < (n : Int) := by omega
   have d2 : (0 : Int) ≤ (k : Int) := by omega
   obtain ⟨b, off, rfl, hb, hc⟩ := rvs_at (H.out.rd.below BL.out) hkl
   have HI := H.out.is l[k] (List.getElem_mem hkl)
   have TK : Hid (cleanL L (l.take (k + 1)) = cleanL L (l.take k) ++ [cleanR L l[k]]) := Lib.hid (by unfold cleanL; rw [List.take_succ_eq_append_getElem hkl, List.map_append]; rfl)
   have LE : (cleanL L (l.take k)).length ≤ k := by unfold cleanL; rw [List.length_map, List.length_take]; omega
   generalize cleanL L (l.take k) = G at *
   generalize l[k] = r at *
   have ONE := Lib.hid (rvL_one r ⟨_, HI⟩)
   have ON1 := Lib.hid (rvL_one (bareR r) ⟨_, bareR_is HI⟩)
   have HC : Hid (wr.rangeAt b (off + k * 21) (rvL r)) := Lib.hid (fun j v hj => hc j v hj)
   obtain ⟨X, hX⟩ : ∃ X, X = wr.alloc (.cells (rvL r).toArray 56) := ⟨_, rfl⟩
   obtain ⟨bx, hbx⟩ : ∃ bx, wr.heap.size = bx := ⟨_, rfl⟩
   have BX : Hid (Below wr.heap.size wr X) := Lib.hid (by rw [hX]; exact (Below.refl _ _).alloc (Nat.le_refl _) _)
   have XX : Hid (X.heap[bx]? = some (.cells (rvL r).toArray 56 (0, 0))) := Lib.hid (by rw [hX, ← hbx]; exact heap_alloc_new wr _)
   have c1 : X.cell? ⟨bx, 1, none⟩ = some (.int .i64 r.author) := load_block XX.out (by rfl)
   have BW : Hid (Below w.heap.size w X) := Lib.hid (BL.out.trans (BX.out.mono BL.out.size))
   have hbw : w.heap.size ≤ bx := by rw [← hbx]; exact BL.out.size
   have AK := Lib.hid (AA.out r.author X BW.out)
   have CB : Hid (∀ u, Below w.heap.size w u → Calls Tryz.prog 55 #[.agg (rvL r).toArray] u fun e w' => e = .returned (.agg (rvL (bareR r)).toArray) ∧ Below u.heap.size u w') := Lib.hid (fun u hu => by
    have := bare27_any r u (HI.below hu)
    unfold rvA at this
    exact this)
   have X1 := Lib.hid hbx
   have X0 := Lib.hid hX
   have FS := Lib.hid (fun z (hz : z.length = 21) => setCells_fresh wr z (rvL r) hz rfl ONE.out)
   have O0 := Lib.hid (own_sameG OW.out (fun g hg => BX.out.block g (OW.out.lt g hg).2))
   have OL := Lib.hid OW.out.lt
   have HBE := Lib.hid hbx
   clear hc HI hX hbx
   generalize hfl : flagOf L r.author = fl at *
   have HF := Lib.hid hfl
   clear hfl
   go_wp2_with (first
    | (refine wpList_load_mid rfl 56 (.tmp 14) rfl b (off + k * 21) rfl (rvL r) _ HC.out Tryz.underlying56 rfl (SZ r) ?_)
    | (refine wpList_store_mid rfl 56 (.tmp 5) (.tmp 15) rfl wr.heap.size 0 (rvL r).toArray rfl rfl (there_of_row (heap_alloc_new wr _) (Nat.le_refl 21)) (SA r) ONE.out ?_; rw [List.toList_toArray, FS.out _ rfl, ← X0.out, X1.out]))
   (with_reducible refine AK.out.mono ?_)
   rintro e u1 ⟨rfl, b1⟩
   have B2 := Lib.hid (BW.out.trans (b1.mono BW.out.size))
   have O1 := Lib.hid (own_sameG O0.out (fun g hg => b1.block g (O0.out.lt g hg).2))
   have XX1 := Lib.hid ((b1.block bx (lt_of_block XX.out)).trans XX.out)
   have RX1 : Hid (u1.rangeAt bx 0 (rvL r)) := Lib.hid (by have := range_of_row XX1.out; simpa using this)
   clear b1 AK O0 OW BX XX BW HC X0 X1 FS c1 AA
   cases fl
   ·have TR : Hid (cleanR L r = r) := Lib.hid (by unfold cleanR; rw [HF.out]; rfl)
    rw [TR.out] at TK
    have bz := B2.out.size
    go_wp2_with (first
     | (refine wpList_load_mid rfl 56 (.tmp 5) rfl bx 0 rfl (rvL r) _ RX1.out Tryz.underlying56 rfl (SZ r) ?_)
     | (refine wpList_recs rfl [r] 1 _ rfl rfl (by decide) (by decide) (by kernel_rfl) ?_; rw [rvsL_one])
     | (at_builtin; refine wpList_appNG rfl (.tmp 22) (.tmp 24) 22 rfl Tryz.underlying22 info_rec rfl (by decide) w.heap.size _ G.length (rvsL G) (rvL r).toArray 1 (by decide) rfl (by intro y hy; exact (Array.all_eq_true_iff_forall_mem.1 ONE.out) y (by simpa using hy)) rfl rfl rfl O1.out bz (by omega) (by omega) ?_; intro g7 c7 w7 ho7 hg7 hl7 hb7))
    refine ⟨⟨k + 1, by omega, by go_num, ⟨_, rfl⟩, ?_, Lib.hid (B2.out.trans hb7)⟩, by simp [intOf]; omega⟩
    rw [TK.out, List.length_append, rvsL_app, rvsL_one]
    exact Lib.hid ho7
   ·have TR : Hid (cleanR L r = bareR r) := Lib.hid (by unfold cleanR; rw [HF.out]; rfl)
    rw [TR.out] at TK
    have CBU := Lib.hid (CB.out u1 B2.out)
    clear TR CB HF
    generalize bareR r = cr at *
    go_wp2_with (refine wpList_load_mid rfl 56 (.tmp 5) rfl bx 0 rfl (rvL r) _ RX1.out Tryz.underlying56 rfl (SZ r) ?_)
    (with_reducible refine CBU.out.mono ?_)
    rintro e u2 ⟨rfl, b2⟩
    have XX2 := Lib.hid ((b2.block bx (lt_of_block XX1.out)).trans XX1.out)
    have B22 := B2.out.trans (b2.mono B2.out.size)
    obtain ⟨U3, hU3⟩ : ∃ U3, U3 = u2.setCells bx 0 (rvL cr) := ⟨_, rfl⟩
    have RX3 : Hid (U3.rangeAt bx 0 (rvL cr)) := Lib.hid (by rw [hU3]; have := range_setCells (cs := (rvL cr).toArray) XX2.out rfl; simpa using this)
    have B3 : Hid (Below w.heap.size w U3) := Lib.hid (by rw [hU3]; exact below_setCells (w' := u2) bx _ 0 u2 B22 hbw)
    have O3 := Lib.hid (own_sameG (w' := U3) O1.out (fun g hg => by rw [hU3]; exact (setCells_other (by have := (OL.out g hg).2; have := HBE.out; omega) _ _ _).trans (b2.block g (O1.out.lt g hg).2)))
    have U0 := Lib.hid hU3
    have bz := B3.out.size
    have TH := Lib.hid (there_of_row XX2.out (Nat.le_refl 21))
    clear hU3 b2 B22 CBU O1 XX1 RX1 OL HBE
    go_wp2_with (first
     | (refine wpList_store_mid rfl 56 (.tmp 5) (.tmp 21) rfl bx 0 (rvL cr).toArray rfl rfl TH.out (SA cr) ON1.out ?_; rw [List.toList_toArray, ← U0.out])
     | (refine wpList_load_mid rfl 56 (.tmp 5) rfl bx 0 rfl (rvL cr) _ RX3.out Tryz.underlying56 rfl (SZ cr) ?_)
     | (refine wpList_recs rfl [cr] 1 _ rfl rfl (by decide) (by decide) (by kernel_rfl) ?_; rw [rvsL_one])
     | (at_builtin; refine wpList_appNG rfl (.tmp 22) (.tmp 24) 22 rfl Tryz.underlying22 info_rec rfl (by decide) w.heap.size _ G.length (rvsL G) (rvL cr).toArray 1 (by decide) rfl (by intro y hy; exact (Array.all_eq_true_iff_forall_mem.1 ON1.out) y (by simpa using hy)) rfl rfl rfl O3.out bz (by omega) (by omega) ?_; intro g7 c7 w7 ho7 hg7 hl7 hb7))
    refine ⟨⟨k + 1, by omega, by go_num, ⟨_, rfl⟩, ?_, Lib.hid (B3.out.trans hb7)⟩, by simp [intOf]; omega⟩
    rw [TK.out, List.length_append, rvsL_app, rvsL_one]
    exact Lib.hid ho7
  ·have d1 : ¬ (k : Int) < (n : Int) := by omega
   have TT : Hid (l.take k = l) := Lib.hid (List.take_of_length_le (by rw [← HN.out]; omega))
   rw [TT.out] at OW
   go_wp2_with fail
   go_ret
   exact ⟨_, rfl, OW.out, BL.out⟩
theorem hclean49 (A : Option Addr) (n c : Nat) (l : List RV) (w : World) (hn : n = l.length) (h : Rs w A l) :
  Calls Tryz.prog 22 #[.slice A n c] w fun e w' => (∃ A' c', e = .returned (.slice A' n c') ∧ Rs w' A' (cleanL (rcsC l) l)) ∧ Below w.heap.size w w' := by
 refine (clean49_any A n c l w hn h).mono ?_
 rintro e w' ⟨v, rfl, ho, hb⟩
 obtain ⟨A', c', rfl, hr, hc⟩ := own_slG ho
 refine ⟨⟨A', c', by rw [cleanL_len, ← hn], ⟨hr, fun r hr => ?_, fun r hr => ?_, by rw [cleanL_len]; exact h.len⟩⟩, hb⟩
 ·obtain ⟨x, hx, rfl⟩ := List.mem_map.1 hr
  exact cleanR_is ((h.is x hx).below hb)
 ·obtain ⟨x, hx, rfl⟩ := List.mem_map.1 hr
  exact cleanR_sz (h.sz x hx)
end Go.Proofs.YtniklmikdkjgiaaGreatDoor
