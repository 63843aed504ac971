import Derived.Test.YtniklmikdkjgiaaGreatDoorVXA
import Derived.Test.YtniklmikdkjgiaaGreatDoorCXI
import Derived.Test.YtniklmikdkjgiaaGreatDoorCYR
set_option linter.all false
set_option maxHeartbeats 16000000
set_option maxRecDepth 100000
namespace Go.Proofs.YtniklmikdkjgiaaGreatDoor
open Go.RowKit
def bareR (r : RV) : RV := { r with name := [], reason := [], sources := [], sov := .slice none 0 0, trace := [], trv := .slice none 0 0, pseal := zeroSl }
def bareC (c : Rc) : Rc := { c with priv := ⟨[], [], [], [], ⟨0, [], []⟩⟩ }
theorem bareR_c (r : RV) : (bareR r).c = bareC r.c := rfl
theorem bareR_is {w : World} {r : RV} (h : RvIs w r) : RvIs w (bareR r) := ⟨h.pa, h.ed, h.sl, ⟨none, 0, rfl, Rd.nil_ _ _⟩, ⟨none, 0, rfl, Rd.nil_ _ _⟩, zeroSl_is w⟩
theorem bareR_sz {r : RV} (h : RcSz r.c) : RcSz (bareR r).c := ⟨h.branch, h.target, h.frm, Nat.zero_le _, Nat.zero_le _, h.parents, h.parent, Nat.zero_le _, (by intro t h; cases h), Nat.zero_le _, h.sla, zeroSe_sz⟩
theorem bare_any (r : RV) (w : World) (h : RvIs w r) :
  Calls Tryz.prog 54 #[rvA r] w fun e w' => e = .returned (rvA (bareR r)) ∧ Below w.heap.size w w' := by
 obtain ⟨A0, c0, A1, c1, A2, c2, A3, c3, A4, c4, A5, c5, A6, c6, A7, c7, hv, v0, v1, v2, v3, -, -, -, -⟩ := rv_open h
 have hb : rvA (bareR r) = .agg #[.int .i64 r.kind, .int .i64 r.author, .int .i64 r.number, .int .i64 r.clock, .string (mkB r.branch), .slice A0 r.parents.length c0, .slice A1 r.edits.length c1, .string (mkB r.target), .bool r.yes, .int .i64 r.order, .string (mkB r.frm), .int .i64 r.sla.index, .slice A2 r.sla.sig.length c2, .slice A3 r.sla.path.length c3, .string ⟨#[]⟩, .string ⟨#[]⟩, .slice none 0 0, .slice none 0 0, .int .i64 0, .slice none 0 0, .slice none 0 0] := by unfold rvA rvL bareR; dsimp only; rw [v0, v1, v2, v3]; rfl
 rw [hb]
 unfold rvA
 rw [hv]
 clear h hv hb v0 v1 v2 v3
 obtain ⟨W, hW⟩ : ∃ W, W = (w.alloc (.cells #[.int .i64 r.kind, .int .i64 r.author, .int .i64 r.number, .int .i64 r.clock, .string (mkB r.branch), .slice A0 r.parents.length c0, .slice A1 r.edits.length c1, .string (mkB r.target), .bool r.yes, .int .i64 r.order, .string (mkB r.frm), .int .i64 r.sla.index, .slice A2 r.sla.sig.length c2, .slice A3 r.sla.path.length c3, .string ⟨#[]⟩, .string ⟨#[]⟩, .slice none 0 0, .slice none 0 0, .int .i64 0, .slice none 0 0, .slice none 0 0] 56)).alloc (.cells #[.int .i64 0, .int .i64 0, .int .i64 0, .int .i64 0, .string ⟨#[]⟩, .slice none 0 0, .slice none 0 0, .string ⟨#[]⟩, .bool false, .int .i64 0, .string ⟨#[]⟩, .int .i64 0, .slice none 0 0, .slice none 0 0, .string ⟨#[]⟩, .string ⟨#[]⟩, .slice none 0 0, .slice none 0 0, .int .i64 0, .slice none 0 0, .slice none 0 0] 56) := ⟨_, rfl⟩
 have HX : W.heap[w.heap.size]? = some (.cells #[.int .i64 r.kind, .int .i64 r.author, .int .i64 r.number, .int .i64 r.clock, .string (mkB r.branch), .slice A0 r.parents.length c0, .slice A1 r.edits.length c1, .string (mkB r.target), .bool r.yes, .int .i64 r.order, .string (mkB r.frm), .int .i64 r.sla.index, .slice A2 r.sla.sig.length c2, .slice A3 r.sla.path.length c3, .string ⟨#[]⟩, .string ⟨#[]⟩, .slice none 0 0, .slice none 0 0, .int .i64 0, .slice none 0 0, .slice none 0 0] 56 (0, 0)) := by rw [hW]; exact (alloc_old _ _ (by simp)).trans (heap_alloc_new w _)
 have HY : W.heap[w.heap.size + 1]? = some (.cells #[.int .i64 0, .int .i64 0, .int .i64 0, .int .i64 0, .string ⟨#[]⟩, .slice none 0 0, .slice none 0 0, .string ⟨#[]⟩, .bool false, .int .i64 0, .string ⟨#[]⟩, .int .i64 0, .slice none 0 0, .slice none 0 0, .string ⟨#[]⟩, .string ⟨#[]⟩, .slice none 0 0, .slice none 0 0, .int .i64 0, .slice none 0 0, .slice none 0 0] 56 (0, 0)) := by rw [hW]; exact alloc_new' _ _ _ (by simp)
 have BW : Below w.heap.size w W := by rw [hW]; exact ((Below.refl _ _).alloc (Nat.le_refl _) _).alloc (by simp) _
 go_enter Tryz.func54, Tryz.ntmps54
 go_upto_region 2 with fail
 rw [← hW]
 clear hW
 refine wp_region_lit ?_
 refine wpList_load_mid rfl 56 (.tmp 1) rfl w.heap.size 0 rfl [.int .i64 r.kind, .int .i64 r.author, .int .i64 r.number, .int .i64 r.clock, .string (mkB r.branch), .slice A0 r.parents.length c0, .slice A1 r.edits.length c1, .string (mkB r.target), .bool r.yes, .int .i64 r.order, .string (mkB r.frm), .int .i64 r.sla.index, .slice A2 r.sla.sig.length c2, .slice A3 r.sla.path.length c3, .string ⟨#[]⟩, .string ⟨#[]⟩, .slice none 0 0, .slice none 0 0, .int .i64 0, .slice none 0 0, .slice none 0 0] _ (range_of_row HX) Tryz.underlying56 rfl (by kernel_rfl) ?_
 refine wpList_store_mid rfl 56 (.tmp 2) (.tmp 5) rfl (w.heap.size + 1) 0 #[.int .i64 r.kind, .int .i64 r.author, .int .i64 r.number, .int .i64 r.clock, .string (mkB r.branch), .slice A0 r.parents.length c0, .slice A1 r.edits.length c1, .string (mkB r.target), .bool r.yes, .int .i64 r.order, .string (mkB r.frm), .int .i64 r.sla.index, .slice A2 r.sla.sig.length c2, .slice A3 r.sla.path.length c3, .string ⟨#[]⟩, .string ⟨#[]⟩, .slice none 0 0, .slice none 0 0, .int .i64 0, .slice none 0 0, .slice none 0 0] rfl rfl (there_of_row HY (Nat.le_refl _)) (by kernel_rfl) (by simp [Value.oneCell']) ?_
 have RG := range_setCells (cs := #[.int .i64 r.kind, .int .i64 r.author, .int .i64 r.number, .int .i64 r.clock, .string (mkB r.branch), .slice A0 r.parents.length c0, .slice A1 r.edits.length c1, .string (mkB r.target), .bool r.yes, .int .i64 r.order, .string (mkB r.frm), .int .i64 r.sla.index, .slice A2 r.sla.sig.length c2, .slice A3 r.sla.path.length c3, .string ⟨#[]⟩, .string ⟨#[]⟩, .slice none 0 0, .slice none 0 0, .int .i64 0, .slice none 0 0, .slice none 0 0]) HY rfl
 have BB := below_setCells (w' := W) (w.heap.size + 1) [.int .i64 r.kind, .int .i64 r.author, .int .i64 r.number, .int .i64 r.clock, .string (mkB r.branch), .slice A0 r.parents.length c0, .slice A1 r.edits.length c1, .string (mkB r.target), .bool r.yes, .int .i64 r.order, .string (mkB r.frm), .int .i64 r.sla.index, .slice A2 r.sla.sig.length c2, .slice A3 r.sla.path.length c3, .string ⟨#[]⟩, .string ⟨#[]⟩, .slice none 0 0, .slice none 0 0, .int .i64 0, .slice none 0 0, .slice none 0 0] 0 W BW (by omega)
 have ZZ : (W.setCells (w.heap.size + 1) 0 (#[.int .i64 r.kind, .int .i64 r.author, .int .i64 r.number, .int .i64 r.clock, .string (mkB r.branch), .slice A0 r.parents.length c0, .slice A1 r.edits.length c1, .string (mkB r.target), .bool r.yes, .int .i64 r.order, .string (mkB r.frm), .int .i64 r.sla.index, .slice A2 r.sla.sig.length c2, .slice A3 r.sla.path.length c3, .string ⟨#[]⟩, .string ⟨#[]⟩, .slice none 0 0, .slice none 0 0, .int .i64 0, .slice none 0 0, .slice none 0 0] : Array Value).toList) = W.setCells (w.heap.size + 1) 0 [.int .i64 r.kind, .int .i64 r.author, .int .i64 r.number, .int .i64 r.clock, .string (mkB r.branch), .slice A0 r.parents.length c0, .slice A1 r.edits.length c1, .string (mkB r.target), .bool r.yes, .int .i64 r.order, .string (mkB r.frm), .int .i64 r.sla.index, .slice A2 r.sla.sig.length c2, .slice A3 r.sla.path.length c3, .string ⟨#[]⟩, .string ⟨#[]⟩, .slice none 0 0, .slice none 0 0, .int .i64 0, .slice none 0 0, .slice none 0 0] := rfl
 rw [ZZ] at RG ⊢
 generalize W.setCells (w.heap.size + 1) 0 [.int .i64 r.kind, .int .i64 r.author, .int .i64 r.number, .int .i64 r.clock, .string (mkB r.branch), .slice A0 r.parents.length c0, .slice A1 r.edits.length c1, .string (mkB r.target), .bool r.yes, .int .i64 r.order, .string (mkB r.frm), .int .i64 r.sla.index, .slice A2 r.sla.sig.length c2, .slice A3 r.sla.path.length c3, .string ⟨#[]⟩, .string ⟨#[]⟩, .slice none 0 0, .slice none 0 0, .int .i64 0, .slice none 0 0, .slice none 0 0] = W3 at *
 have LV := run_loadVar_mid (P := Tryz.prog) W3 (w.heap.size + 1) 0 56 [.int .i64 r.kind, .int .i64 r.author, .int .i64 r.number, .int .i64 r.clock, .string (mkB r.branch), .slice A0 r.parents.length c0, .slice A1 r.edits.length c1, .string (mkB r.target), .bool r.yes, .int .i64 r.order, .string (mkB r.frm), .int .i64 r.sla.index, .slice A2 r.sla.sig.length c2, .slice A3 r.sla.path.length c3, .string ⟨#[]⟩, .string ⟨#[]⟩, .slice none 0 0, .slice none 0 0, .int .i64 0, .slice none 0 0, .slice none 0 0] _ RG Tryz.underlying56 rfl (by kernel_rfl)
 clear RG HX HY BW ZZ
 go_simp
 go_wp2_with fail
 exact bodyPost_ret (v := .agg #[.int .i64 r.kind, .int .i64 r.author, .int .i64 r.number, .int .i64 r.clock, .string (mkB r.branch), .slice A0 r.parents.length c0, .slice A1 r.edits.length c1, .string (mkB r.target), .bool r.yes, .int .i64 r.order, .string (mkB r.frm), .int .i64 r.sla.index, .slice A2 r.sla.sig.length c2, .slice A3 r.sla.path.length c3, .string ⟨#[]⟩, .string ⟨#[]⟩, .slice none 0 0, .slice none 0 0, .int .i64 0, .slice none 0 0, .slice none 0 0]) (results_cell1 (i := 2) (t := 56) rfl rfl LV) rfl ⟨rfl, BB⟩
end Go.Proofs.YtniklmikdkjgiaaGreatDoor
namespace Go.Proofs.YtniklmikdkjgiaaGreatDoor
open Go.RowKit
def reqB (c : Rc) : Bool := decide (c.kind = 5) && validR (bareC c)
def askB (l : List Rc) (i : Nat) : Bool := l.any fun c => reqB c && decide (c.author = (i : Int))
def askRow (l : List Rc) : Array Value := Array.ofFn (n := 60) fun i => .bool (askB l i.val)
theorem askRow_nil : askRow [] = #[.bool false, .bool false, .bool false, .bool false, .bool false, .bool false, .bool false, .bool false, .bool false, .bool false, .bool false, .bool false, .bool false, .bool false, .bool false, .bool false, .bool false, .bool false, .bool false, .bool false, .bool false, .bool false, .bool false, .bool false, .bool false, .bool false, .bool false, .bool false, .bool false, .bool false, .bool false, .bool false, .bool false, .bool false, .bool false, .bool false, .bool false, .bool false, .bool false, .bool false, .bool false, .bool false, .bool false, .bool false, .bool false, .bool false, .bool false, .bool false, .bool false, .bool false, .bool false, .bool false, .bool false, .bool false, .bool false, .bool false, .bool false, .bool false, .bool false, .bool false] := by kernel_rfl
theorem askRow_size (l : List Rc) : (askRow l).size = 60 := by simp [askRow]
theorem askRow_at (l : List Rc) {a : Nat} (h : a < 60) : (askRow l)[a]? = some (.bool (askB l a)) := by
 unfold askRow
 rw [Array.getElem?_eq_getElem (by simpa using h)]
 simp
theorem askB_app (l : List Rc) (c : Rc) (i : Nat) : askB (l ++ [c]) i = (askB l i || (reqB c && decide (c.author = (i : Int)))) := by unfold askB; simp
theorem askRow_miss (l : List Rc) {c : Rc} (h : reqB c = false) : askRow (l ++ [c]) = askRow l := by
 unfold askRow
 congr 1
 funext i
 rw [askB_app, h]; simp
theorem askRow_hit (l : List Rc) {c : Rc} (h : reqB c = true) {a : Nat} (ha : c.author = (a : Int)) (h6 : a < 60) : (askRow l).setIfInBounds a (.bool true) = askRow (l ++ [c]) := by
 apply Array.ext_getElem?
 intro i
 by_cases h3 : i < 60
 ·rw [askRow_at _ h3, askB_app, h, ha, Array.getElem?_setIfInBounds]
  by_cases e : a = i
  ·subst e
   rw [if_pos rfl, if_pos (by rw [askRow_size]; exact h6)]
   simp
  ·have : ¬ ((a : Int) = (i : Int)) := by omega
   rw [if_neg e, askRow_at _ h3]
   simp [this]
 ·rw [Array.getElem?_eq_none (by rw [Array.size_setIfInBounds, askRow_size]; omega), Array.getElem?_eq_none (by rw [askRow_size]; omega)]
theorem valid_author {c : Rc} (h : validR (bareC c) = true) : 0 ≤ c.author ∧ c.author ≤ 59 := by
 unfold validR at h
 simp only [Bool.and_eq_true, Bool.not_eq_true', Bool.or_eq_false_iff, Bool.not_eq_false'] at h
 have := h.1.1.2.1.1.1.1.1.1
 unfold inB at this
 simp only [Bool.and_eq_true, decide_eq_true_eq] at this
 exact this
structure AskI (w : World) (br bo : Nat) (wr : World) (L : List Rc) : Prop where
 out : wr.heap[bo]? = some (.cells (askRow L) 77 (0, 0))
 res : wr.heap[br]? = some (.cells (askRow []) 77 (0, 0))
 bel : Below w.heap.size w wr
theorem asked_any (A : Option Addr) (n c : Nat) (l : List RV) (w : World) (hn : n = l.length) (h : Rs w A l) (ht : Tab w) :
  Calls Tryz.prog 49 #[.slice A n c] w fun e w' => e = .returned (.agg (askRow (rcsC l))) ∧ Below w.heap.size w w' := by
 have hl : n ≤ 100000 := by rw [hn]; exact h.len
 have H := Lib.hid h
 have HN := Lib.hid hn
 have HT := Lib.hid ht
 obtain ⟨br, hbr⟩ : ∃ br, w.heap.size = br := ⟨_, rfl⟩
 obtain ⟨bo, hbo⟩ : ∃ bo, w.heap.size + 1 = bo := ⟨_, rfl⟩
 obtain ⟨W, hW⟩ : ∃ W, W = (w.alloc (.cells #[.bool false, .bool false, .bool false, .bool false, .bool false, .bool false, .bool false, .bool false, .bool false, .bool false, .bool false, .bool false, .bool false, .bool false, .bool false, .bool false, .bool false, .bool false, .bool false, .bool false, .bool false, .bool false, .bool false, .bool false, .bool false, .bool false, .bool false, .bool false, .bool false, .bool false, .bool false, .bool false, .bool false, .bool false, .bool false, .bool false, .bool false, .bool false, .bool false, .bool false, .bool false, .bool false, .bool false, .bool false, .bool false, .bool false, .bool false, .bool false, .bool false, .bool false, .bool false, .bool false, .bool false, .bool false, .bool false, .bool false, .bool false, .bool false, .bool false, .bool false] 77)).alloc (.cells #[.bool false, .bool false, .bool false, .bool false, .bool false, .bool false, .bool false, .bool false, .bool false, .bool false, .bool false, .bool false, .bool false, .bool false, .bool false, .bool false, .bool false, .bool false, .bool false, .bool false, .bool false, .bool false, .bool false, .bool false, .bool false, .bool false, .bool false, .bool false, .bool false, .bool false, .bool false, .bool false, .bool false, .bool false, .bool false, .bool false, .bool false, .bool false, .bool false, .bool false, .bool false, .bool false, .bool false, .bool false, .bool false, .bool false, .bool false, .bool false, .bool false, .bool false, .bool false, .bool false, .bool false, .bool false, .bool false, .bool false, .bool false, .bool false, .bool false, .bool false] 77) := ⟨_, rfl⟩
 have I0 : Hid (AskI w br bo W (rcsC (l.take 0))) := Lib.hid (by
  rw [List.take_zero, show rcsC [] = [] from rfl]
  refine ⟨?_, ?_, ?_⟩
  ·rw [askRow_nil, hW, ← hbo]; exact alloc_new' _ _ _ (by simp)
  ·rw [askRow_nil, hW, ← hbr]; exact (alloc_old _ _ (by simp)).trans (heap_alloc_new w _)
  ·rw [hW]; exact ((Below.refl _ _).alloc (Nat.le_refl _) _).alloc (by simp) _)
 have NE : br ≠ bo := by omega
 have HBo : w.heap.size ≤ bo := by omega
 have HBr : w.heap.size ≤ br := by omega
 have X1 := Lib.hid hbr
 have X2 := Lib.hid hbo
 clear h hn ht hbr hbo
 go_enter Tryz.func49, Tryz.ntmps49
 go_upto_region 2 with fail
 rw [← hW]
 rw [X2.out, X1.out]
 clear hW X1 X2
 go_wp2_with fail
 go_loopw [5, 8] (fun s5 s8 wr => ∃ k : Nat, k ≤ n ∧ s8 = .int .i64 (k : Int) ∧ (∃ p, s5 = p) ∧ Hid (AskI w br bo wr (rcsC (l.take k)))) (fun _ i _ => n - (intOf i).toNat)
 case atStart => exact ⟨0, Nat.zero_le _, rfl, ⟨_, rfl⟩, I0⟩
 case round =>
  clear I0
  obtain ⟨k, hk, rfl, ⟨p5, rfl⟩, I⟩ := hrel
  by_cases hlt : k < n
  ·have hkl : k < l.length := by rw [← HN.out]; exact hlt
   have d1 : (k : Int) < (n : Int) := by omega
   have d2 : (0 : Int) ≤ (k : Int) := by omega
   obtain ⟨b, off, rfl, hb, hc⟩ := rvs_at (H.out.rd.below I.out.bel) hkl
   have HI := H.out.is l[k] (List.getElem_mem hkl)
   have HS := H.out.sz l[k] (List.getElem_mem hkl)
   have TK : Hid (rcsC (l.take (k + 1)) = rcsC (l.take k) ++ [l[k].c]) := Lib.hid (by unfold rcsC; rw [List.take_succ_eq_append_getElem hkl, List.map_append]; rfl)
   generalize rcsC (l.take k) = L at *
   generalize l[k] = r at *
   have ONE := Lib.hid (rvL_one r ⟨_, HI⟩)
   have HC : Hid (wr.rangeAt b (off + k * 21) (rvL r)) := Lib.hid (fun j v hj => hc j v hj)
   obtain ⟨X, hX⟩ : ∃ X, X = wr.alloc (.cells (rvL r).toArray 56) := ⟨_, rfl⟩
   obtain ⟨bx, hbx⟩ : ∃ bx, wr.heap.size = bx := ⟨_, rfl⟩
   have BX : Hid (Below wr.heap.size wr X) := Lib.hid (by rw [hX]; exact (Below.refl _ _).alloc (Nat.le_refl _) _)
   have XX : Hid (X.heap[bx]? = some (.cells (rvL r).toArray 56 (0, 0))) := Lib.hid (by rw [hX, ← hbx]; exact heap_alloc_new wr _)
   have ZX : bx < X.heap.size := lt_of_block XX.out
   have BW : Hid (Below w.heap.size w X) := Lib.hid (I.out.bel.trans (BX.out.mono I.out.bel.size))
   have BA := bare_any r X (HI.below BW.out)
   unfold rvA at BA
   have BB := Lib.hid BA
   have HI2 := Lib.hid HI
   have HS2 := Lib.hid HS
   have HR : Hid (reqB r.c = (decide (r.kind = 5) && validR (bareC r.c))) := Lib.hid rfl
   have kK : X.cell? ⟨bx, 0, none⟩ = some (.int .i64 r.kind) := load_block XX.out (by rfl)
   have kA0 : X.cell? ⟨bx, 1, none⟩ = some (.int .i64 r.author) := load_block XX.out (by rfl)
   have SZ : (Tryz.prog.info? 56).map (·.size) = some (rvL r).length := by kernel_rfl
   have SA : (Tryz.prog.info? 56).map (·.size) = some (rvL r).toArray.size := by kernel_rfl
   have RX : Hid (X.rangeAt bx 0 (rvL r)) := Lib.hid (by have := range_of_row XX.out; simpa using this)
   have X1 := Lib.hid hbx
   have X0 := Lib.hid hX
   have FS := Lib.hid (fun z (hz : z.length = 21) => setCells_fresh wr z (rvL r) hz rfl ONE.out)
   clear hc BA HI HS hX hbx
   by_cases h5 : r.kind = 5
   ·have e5 : (r.kind == 5) = true := by rw [h5]; rfl
    have HR2 : Hid (reqB r.c = validR (bareC r.c)) := Lib.hid (by rw [HR.out, decide_eq_true h5]; rfl)
    clear h5 HR
    go_wp2_with (first
     | (refine wpList_load_mid rfl 56 (.tmp 10) rfl b (off + k * 21) rfl (rvL r) _ HC.out Tryz.underlying56 rfl SZ ?_)
     | (refine wpList_store_mid rfl 56 (.tmp 5) (.tmp 11) rfl wr.heap.size 0 (rvL r).toArray rfl rfl (there_of_row (heap_alloc_new wr _) (Nat.le_refl 21)) SA ONE.out ?_; rw [List.toList_toArray, FS.out _ rfl, ← X0.out, X1.out])
     | (refine wpList_load_midG (by simp [Region.wanted, yielded]; done) 56 (.tmp 5) rfl bx 0 rfl (rvL r) _ RX.out Tryz.underlying56 rfl SZ ?_))
    (with_reducible refine BB.out.mono ?_)
    rintro e u1 ⟨rfl, b1⟩
    have B1 := Lib.hid b1
    have BW1 : Hid (Below w.heap.size w u1) := Lib.hid (BW.out.trans (b1.mono BW.out.size))
    have VA := Lib.hid (rvalid_any (bareR r) u1 (bareR_is (HI2.out.below BW1.out)) (bareR_sz HS2.out) (HT.out.keep BW1.out))
    rw [bareR_c] at VA
    unfold rvA at VA
    generalize Value.agg (rvL (bareR r)).toArray = bv at *
    clear b1 BB HC ONE RX SZ SA X0 X1 FS
    go_wp2_with fail
    (with_reducible refine VA.out.mono ?_)
    rintro e u2 ⟨rfl, b2⟩
    have B12 : Hid (Below wr.heap.size wr u2) := Lib.hid (BX.out.trans ((B1.out.trans (b2.mono B1.out.size)).mono BX.out.size))
    have BW2 : Hid (Below w.heap.size w u2) := Lib.hid (I.out.bel.trans (B12.out.mono I.out.bel.size))
    have O2 : Hid (u2.heap[bo]? = some (.cells (askRow L) 77 (0, 0))) := Lib.hid ((B12.out.block bo (lt_of_block I.out.out)).trans I.out.out)
    have R2 : Hid (u2.heap[br]? = some (.cells (askRow []) 77 (0, 0))) := Lib.hid ((B12.out.block br (lt_of_block I.out.res)).trans I.out.res)
    have kA : u2.cell? ⟨bx, 1, none⟩ = some (.int .i64 r.author) := load_block (((B1.out.trans (b2.mono B1.out.size)).block bx ZX).trans XX.out) (by rfl)
    clear b2 VA B1 BX XX BW BW1 kK kA0
    cases hV : validR (bareC r.c)
    ·have I2 : Hid (AskI w br bo u2 (rcsC (l.take (k + 1)))) := Lib.hid ⟨by rw [TK.out, askRow_miss _ (by rw [HR2.out, hV])]; exact O2.out, R2.out, BW2.out⟩
     clear hV HR2
     go_wp2_with fail
     exact ⟨⟨k + 1, by omega, by go_num, ⟨_, rfl⟩, I2⟩, by simp [intOf]; omega⟩
    ·obtain ⟨a0, a1⟩ := valid_author hV
     have a0 : 0 ≤ r.author := a0
     have a1 : r.author ≤ 59 := a1
     obtain ⟨a, ha⟩ : ∃ a : Nat, r.author = (a : Int) := ⟨r.author.toNat, by omega⟩
     have h6 : a < 60 := by omega
     have I2 : Hid (AskI w br bo (u2.setCell ⟨bo, a, none⟩ (.bool true)) (rcsC (l.take (k + 1)))) := Lib.hid ⟨by rw [TK.out, ← askRow_hit _ (by rw [HR2.out, hV]) (show r.c.author = (a : Int) from ha) h6]; exact row_put8 O2.out _, (Below.heap_setCell u2 ⟨bo, a, none⟩ _ br (by exact NE)).trans R2.out, BW2.out.setCell (p := ⟨bo, a, none⟩) HBo _⟩
     have cA : u2.cell? ⟨bo, a, none⟩ = some (.bool (askB L a)) := load_block O2.out (askRow_at L h6)
     have fA := free_blk O2.out a
     rw [ha] at kA
     have d3 : (a : Int) < 60 := by omega
     have d4 : (0 : Int) ≤ (a : Int) := by omega
     clear hV HR2 ha a0 a1 h6 O2 R2 TK
     go_wp2_with fail
     exact ⟨⟨k + 1, by omega, by go_num, ⟨_, rfl⟩, I2⟩, by simp [intOf]; omega⟩
   ·have e5 : (r.kind == 5) = false := by simpa using h5
    have I2 : Hid (AskI w br bo X (rcsC (l.take (k + 1)))) := Lib.hid ⟨by rw [TK.out, askRow_miss _ (by rw [HR.out, decide_eq_false h5]; rfl)]; exact (BX.out.block bo (lt_of_block I.out.out)).trans I.out.out, (BX.out.block br (lt_of_block I.out.res)).trans I.out.res, BW.out⟩
    clear h5 HR BB
    go_wp2_with (first
     | (refine wpList_load_mid rfl 56 (.tmp 10) rfl b (off + k * 21) rfl (rvL r) _ HC.out Tryz.underlying56 rfl SZ ?_)
     | (refine wpList_store_mid rfl 56 (.tmp 5) (.tmp 11) rfl wr.heap.size 0 (rvL r).toArray rfl rfl (there_of_row (heap_alloc_new wr _) (Nat.le_refl 21)) SA ONE.out ?_; rw [List.toList_toArray, FS.out _ rfl, ← X0.out, X1.out]))
    exact ⟨⟨k + 1, by omega, by go_num, ⟨_, rfl⟩, I2⟩, by simp [intOf]; omega⟩
  ·have d1 : ¬ (k : Int) < (n : Int) := by omega
   have TT : Hid (l.take k = l) := Lib.hid (List.take_of_length_le (by rw [← HN.out]; omega))
   rw [TT.out] at I
   have RI := I.out.res
   have OI := I.out.out
   have BI := I.out.bel
   have Z0 : (askRow []).size = 60 := askRow_size _
   have K1 : (askRow (rcsC l)).all (·.oneCell') = true := Array.all_eq_true_iff_forall_mem.2 (fun v hv => by
    simp only [askRow, Array.mem_ofFn] at hv
    obtain ⟨i, rfl⟩ := hv
    rfl)
   have K2 : (askRow (rcsC l)).size = 60 := askRow_size _
   have K3 : (Tryz.prog.info? 77).map (·.size) = some 60 := by kernel_rfl
   obtain ⟨K, hK⟩ : ∃ K : List Value, askRow (rcsC l) = K.toArray := ⟨(askRow (rcsC l)).toList, (Array.toArray_toList).symm⟩
   have HK := Lib.hid hK
   rw [hK] at OI K1 K2
   clear hK
   generalize askRow [] = Z at *
   have K2 : K.length = 60 := by simpa using K2
   clear I TT
   go_upto_region 8 with fail
   refine wp_region_lit ?_
   refine wpList_load_mid rfl 77 (.tmp 3) rfl bo 0 rfl K _ (by have := range_of_row OI; simpa using this) Tryz.underlying77 rfl (by rw [K2]; exact K3) ?_
   refine wpList_store_mid rfl 77 (.tmp 2) (.tmp 24) rfl br 0 K.toArray rfl rfl (there_of_row RI (by rw [Z0, List.size_toArray, K2]; exact Nat.le_refl _)) (by rw [List.size_toArray, K2]; exact K3) K1 ?_
   have RG := range_setCells (cs := K.toArray) RI (by rw [Z0, List.size_toArray, K2])
   have BB := below_setCells (w' := wr) br K 0 wr BI HBr
   rw [List.toList_toArray] at RG ⊢
   generalize wr.setCells br 0 K = W3 at *
   have LV := run_loadVar_mid (P := Tryz.prog) W3 br 0 77 K _ RG Tryz.underlying77 rfl (by rw [K2]; exact K3)
   have LW := Lib.hid LV
   clear RG RI OI BI Z0 K1 K2 K3 LV
   go_simp
   go_step
   go_step
   go_step
   go_step
   go_step
   exact bodyPost_ret (v := .agg K.toArray) (results_cell1 (i := 2) (t := 77) rfl rfl LW.out) rfl ⟨by rw [HK.out], BB⟩
end Go.Proofs.YtniklmikdkjgiaaGreatDoor
namespace Go.Proofs.YtniklmikdkjgiaaGreatDoor
open Go.RowKit
def flagOf (l : List Rc) (i : Int) : Bool := decide (0 ≤ i) && decide (i < 60) && askB l i.toNat
theorem has_any (l : List Rc) (i : Int) (w : World) :
  Calls Tryz.prog 53 #[.agg (askRow l), .int .i64 i] w fun e w' => e = .returned (.bool (flagOf l i)) ∧ Below w.heap.size w w' := by
 have PM : Hid (flagOf l i = (decide (0 ≤ i) && decide (i < 60) && askB l i.toNat)) := Lib.hid rfl
 generalize flagOf l i = R at *
 obtain ⟨W, hW⟩ : ∃ W, W = w.alloc (.cells (askRow l) 77) := ⟨_, rfl⟩
 have BW : Hid (Below w.heap.size w W) := Lib.hid (by rw [hW]; exact (Below.refl _ _).alloc (Nat.le_refl _) _)
 have HX : Hid (W.heap[w.heap.size]? = some (.cells (askRow l) 77 (0, 0))) := Lib.hid (by rw [hW]; exact heap_alloc_new w _)
 have AT : Hid (∀ a : Nat, a < 60 → W.cell? ⟨w.heap.size, a, none⟩ = some (.bool (askB l a))) := Lib.hid (fun a h => load_block HX.out (askRow_at l h))
 generalize askRow l = K at *
 go_enter Tryz.func53, Tryz.ntmps53
 go_upto_region 1 with fail
 try rw [← hW]
 clear hW
 by_cases h0 : 0 ≤ i
 ·by_cases h6 : i < 60
  ·obtain ⟨a, rfl⟩ : ∃ a : Nat, i = (a : Int) := ⟨i.toNat, by omega⟩
   have ha : a < 60 := by omega
   have PF : Hid (R = askB l a) := Lib.hid (by rw [PM.out, decide_eq_true h0, decide_eq_true h6]; rfl)
   have ca := AT.out a ha
   have e0 : decide ((0 : Int) ≤ (a : Int)) = true := decide_eq_true h0
   have e6 : decide ((a : Int) < 60) = true := decide_eq_true h6
   generalize askB l a = q at *
   clear PM ha
   go_wp2_with fail
   go_ret
   exact ⟨by rw [PF.out]; rfl, BW.out⟩
  ·have PF : Hid (R = false) := Lib.hid (by rw [PM.out, decide_eq_true h0, decide_eq_false h6]; rfl)
   have e0 : decide ((0 : Int) ≤ i) = true := decide_eq_true h0
   have e6 : decide (i < 60) = false := decide_eq_false h6
   clear PM
   go_wp2_with fail
   go_ret
   exact ⟨by rw [PF.out]; rfl, BW.out⟩
 ·have PF : Hid (R = false) := Lib.hid (by rw [PM.out, decide_eq_false h0]; rfl)
  have e0 : decide ((0 : Int) ≤ i) = false := decide_eq_false h0
  clear PM
  go_wp2_with fail
  go_ret
  exact ⟨by rw [PF.out]; rfl, BW.out⟩
def forgotF (l : List Rc) : List Int := ((List.range 60).filter fun i => askB l i).map Int.ofNat
def forgK (l : List Rc) (k : Nat) : List Int := ((List.range k).filter fun i => askB l i).map Int.ofNat
theorem forgK_succ (l : List Rc) (k : Nat) : forgK l (k + 1) = forgK l k ++ (if askB l k then [(k : Int)] else []) := by
 unfold forgK
 rw [List.range_succ, List.filter_append, List.map_append]
 by_cases h : askB l k = true <;> simp [h]
theorem forgK_len (l : List Rc) (k : Nat) : (forgK l k).length ≤ k := by
 unfold forgK
 rw [List.length_map]
 exact Nat.le_trans (List.length_filter_le _ _) (Nat.le_of_eq List.length_range)
theorem ask_index (l : List Rc) (k : Nat) (h : k < 60) (w : World) : (Instr.index 77 (.agg (askRow l)) (.int .i64 (k : Int))).run Tryz.prog w = .ok (.bool (askB l k)) w :=
 run_index_row 77 4 60 (askRow l) .i64 k _ w Tryz.underlying77 h Tryz.isAgg4 Tryz.sizeOf4 (askRow_at l h)
theorem forgotten_any (A : Option Addr) (n c : Nat) (l : List RV) (w : World) (hn : n = l.length) (h : Rs w A l) (ht : Tab w) :
  Calls Tryz.prog 18 #[.slice A n c] w fun e w' => ∃ v, e = .returned v ∧ w'.ownsRow w.heap.size 3 1 v (forgotF (rcsC l)).length (intsL (forgotF (rcsC l))) ∧ Below w.heap.size w w' := by
 have AA := Lib.hid (asked_any A n c l w hn h ht)
 have PE : Hid (forgotF (rcsC l) = forgK (rcsC l) 60) := Lib.hid rfl
 generalize forgotF (rcsC l) = FF at *
 generalize rcsC l = L at *
 have IX := Lib.hid (fun k hk u => ask_index L k hk u)
 clear hn h ht
 go_enter Tryz.func18, Tryz.ntmps18
 go_wp2_with fail
 refine AA.out.mono ?_
 rintro e u1 ⟨rfl, b1⟩
 have B1 := Lib.hid b1
 have ST : Hid (u1.ownsRow w.heap.size 3 1 (.slice none 0 0) (forgK L 0).length (intsL (forgK L 0))) := Lib.hid (World.ownsRow_nil _ _ _ _)
 clear b1 AA
 generalize askRow L = K at *
 go_wp2_with fail
 go_loopw [3, 4, 5, 8] (fun s3 s4 s5 s8 wr => ∃ k : Nat, k ≤ 60 ∧ s8 = .int .i64 (k : Int) ∧ (∃ p, s4 = p) ∧ (∃ p, s5 = p) ∧ Hid (wr.ownsRow w.heap.size 3 1 s3 (forgK L k).length (intsL (forgK L k))) ∧ Hid (Below w.heap.size w wr)) (fun _ _ _ i _ => 60 - (intOf i).toNat)
 case atStart => exact ⟨0, Nat.zero_le _, rfl, ⟨_, rfl⟩, ⟨_, rfl⟩, ST, B1⟩
 case round =>
  clear ST B1
  obtain ⟨k, hk, rfl, ⟨p4, rfl⟩, ⟨p5, rfl⟩, OW, BL⟩ := hrel
  by_cases hlt : k < 60
  ·have d1 : (k : Int) < 60 := by omega
   have d2 : (0 : Int) ≤ (k : Int) := by omega
   have ix := IX.out k hlt
   have TK := Lib.hid (forgK_succ L k)
   have LE := forgK_len L k
   have bz := BL.out.size
   generalize askB L k = q at *
   generalize forgK L k = G at *
   cases q
   ·have T2 := Lib.hid (TK.out.trans (by rw [if_neg (by simp), List.append_nil]))
    clear TK
    go_wp2_with fail
    exact ⟨⟨k + 1, by omega, by go_num, ⟨_, rfl⟩, ⟨_, rfl⟩, by rw [T2.out]; exact OW, BL⟩, by simp [intOf]; omega⟩
   ·have T2 := Lib.hid (TK.out.trans (by rw [if_pos rfl]))
    clear TK
    go_wp2_with (at_builtin; refine wpList_appNG rfl (.tmp 13) (.tmp 15) 26 rfl Tryz.underlying26 info_int rfl (by decide) w.heap.size _ G.length (intsL G) _ 1 (by decide) rfl (by intro y hy; simp at hy; rw [hy]; rfl) rfl rfl rfl OW.out bz (by omega) (by omega) ?_; intro g7 c7 w7 ho7 hg7 hl7 hb7)
    refine ⟨⟨k + 1, by omega, by go_num, ⟨_, rfl⟩, ⟨_, rfl⟩, ?_, Lib.hid (BL.out.trans hb7)⟩, by simp [intOf]; omega⟩
    rw [T2.out, List.length_append]
    unfold intsL at ho7 ⊢
    rw [List.map_append]
    exact Lib.hid ho7
  ·have d1 : ¬ (k : Int) < 60 := by omega
   obtain rfl : k = 60 := by omega
   rw [← PE.out] at OW
   go_wp2_with fail
   go_ret
   exact ⟨_, rfl, OW.out, BL.out⟩
end Go.Proofs.YtniklmikdkjgiaaGreatDoor
namespace Go.Proofs.YtniklmikdkjgiaaGreatDoor
open Go.RowKit
def cleanR (L : List Rc) (r : RV) : RV := if flagOf L r.author = true then bareR r else r
theorem cleanR_is {w : World} {L : List Rc} {r : RV} (h : RvIs w r) : RvIs w (cleanR L r) := by
 unfold cleanR; split
 ·exact bareR_is h
 ·exact h
theorem cleanR_sz {L : List Rc} {r : RV} (h : RcSz r.c) : RcSz (cleanR L r).c := by
 unfold cleanR; split
 ·exact bareR_sz h
 ·exact h
theorem clean1_any (bm : Nat) (L : List Rc) (r : RV) (w : World) (hm : w.heap[bm]? = some (.cells (askRow L) 77 (0, 0))) (h : RvIs w r) :
  Calls Tryz.prog 52 #[rvA r, .pointer (some ⟨bm, 0, none⟩)] w fun e w' => e = .returned (rvA (cleanR L r)) ∧ Below w.heap.size w w' := by
 unfold rvA
 obtain ⟨W, hW⟩ : ∃ W, W = (w.alloc (.cells (rvL r).toArray 56)).alloc (.cells zRow.toArray 56) := ⟨_, rfl⟩
 have BW : Hid (Below w.heap.size w W) := Lib.hid (by rw [hW]; exact ((Below.refl _ _).alloc (Nat.le_refl _) _).alloc (by simp) _)
 have HX : Hid (W.heap[w.heap.size]? = some (.cells (rvL r).toArray 56 (0, 0))) := Lib.hid (by rw [hW]; exact (alloc_old _ _ (by simp)).trans (heap_alloc_new w _))
 have HY : Hid (W.heap[w.heap.size + 1]? = some (.cells zRow.toArray 56 (0, 0))) := Lib.hid (by rw [hW]; exact alloc_new' _ _ _ (by simp))
 have HZ : W.heap.size = w.heap.size + 2 := by rw [hW]; simp
 have BA : Hid (∀ u, OldB W u → Below w.heap.size w u) := Lib.hid (fun u hu => BW.out.trans (Below.mono hu BW.out.size))
 have RX : Hid (∀ u, OldB W u → u.rangeAt w.heap.size 0 (rvL r)) := Lib.hid (fun u hu => by have := range_of_row ((hu.block w.heap.size (by omega)).trans HX.out); simpa using this)
 have YX : Hid (∀ u, OldB W u → u.heap[w.heap.size + 1]? = some (.cells zRow.toArray 56 (0, 0))) := Lib.hid (fun u hu => (hu.block (w.heap.size + 1) (by omega)).trans HY.out)
 have kA : ∀ u, OldB W u → u.cell? ⟨w.heap.size, 1, none⟩ = some (.int .i64 r.author) := fun u hu => load_block ((hu.block w.heap.size (by omega)).trans HX.out) (by rfl)
 have hm' := (BW.out.block bm (lt_of_block hm)).trans hm
 obtain ⟨K, hK⟩ : ∃ K : List Value, askRow L = K.toArray := ⟨(askRow L).toList, (Array.toArray_toList).symm⟩
 have HA := fun u => has_any L r.author u
 have K2 : K.length = 60 := by have := askRow_size L; rw [hK] at this; simpa using this
 rw [hK] at HA hm'
 have RM : Hid (W.rangeAt bm 0 K) := Lib.hid (by have := range_of_row hm'; simpa using this)
 have HH := Lib.hid HA
 have SZ : (Tryz.prog.info? 56).map (·.size) = some (rvL r).length := by kernel_rfl
 have ONE := Lib.hid (rvL_one r ⟨_, h⟩)
 have ON2 := Lib.hid (rvL_one (bareR r) ⟨_, bareR_is h⟩)
 have PM : Hid (cleanR L r = if flagOf L r.author = true then bareR r else r) := Lib.hid rfl
 have BB := Lib.hid (fun u (hu : OldB W u) => bare_any r u (h.below (BA.out u hu)))
 unfold rvA at BB
 have SW : OldB W W := Below.refl _ _
 have K3 : (Tryz.prog.info? 77).map (·.size) = some 60 := by kernel_rfl
 unfold zRow at hW
 clear HA hm hm' h hK
 go_enter Tryz.func52, Tryz.ntmps52
 go_upto_region 1 with fail
 rw [← hW]
 clear hW HZ HX HY
 go_wp2_with (refine wpList_load_mid rfl 77 (.tmp 1) rfl bm 0 rfl K _ RM.out Tryz.underlying77 rfl (by rw [K2]; exact K3) ?_)
 (with_reducible refine (HH.out _).mono ?_)
 rintro e u1 ⟨rfl, d1⟩
 have O1 : OldB W u1 := d1
 clear d1 SW
 have ZS : (zRow.toArray : Array Value).size = 21 := rfl
 have SA : ∀ x : RV, (Tryz.prog.info? 56).map (·.size) = some (rvL x).toArray.size := fun x => by kernel_rfl
 obtain ⟨q, hq⟩ : ∃ q, flagOf L r.author = q := ⟨_, rfl⟩
 have HQ := Lib.hid hq
 rw [hq]
 cases q
 ·have PE : Hid (cleanR L r = r) := Lib.hid (by rw [PM.out, hq]; rfl)
  clear hq
  go_upto_region 3 with fail
  refine wp_region_lit ?_
  refine wpList_load_mid rfl 56 (.tmp 2) rfl w.heap.size 0 rfl (rvL r) _ (RX.out u1 O1) Tryz.underlying56 rfl SZ ?_
  refine wpList_store_mid rfl 56 (.tmp 3) (.tmp 10) rfl (w.heap.size + 1) 0 (rvL r).toArray rfl rfl (there_of_row (YX.out u1 O1) (Nat.le_refl 21)) (SA r) ONE.out ?_
  have RG := range_setCells (cs := (rvL r).toArray) (YX.out u1 O1) rfl
  have BX := below_setCells (w' := u1) (w.heap.size + 1) (rvL r) 0 u1 (BA.out u1 O1) (by omega)
  rw [List.toList_toArray] at RG ⊢
  generalize u1.setCells (w.heap.size + 1) 0 (rvL r) = W3 at *
  have LV := Lib.hid (run_loadVar_mid (P := Tryz.prog) W3 (w.heap.size + 1) 0 56 (rvL r) _ RG Tryz.underlying56 rfl SZ)
  clear RG
  go_simp
  go_step
  go_step
  go_step
  go_step
  go_step
  exact bodyPost_ret (v := .agg (rvL r).toArray) (results_cell1 (i := 3) (t := 56) rfl rfl LV.out) rfl ⟨by rw [PE.out], BX⟩
 ·have PE : Hid (cleanR L r = bareR r) := Lib.hid (by rw [PM.out, hq]; rfl)
  clear hq
  go_wp2_with (refine wpList_load_mid rfl 56 (.tmp 2) rfl w.heap.size 0 rfl (rvL r) _ (RX.out u1 O1) Tryz.underlying56 rfl SZ ?_)
  (with_reducible refine (BB.out u1 O1).mono ?_)
  rintro e u2 ⟨rfl, d2⟩
  have O2 : OldB W u2 := O1.then d2
  clear d2 O1
  simp only []
  go_step
  refine wpList_store_mid rfl 56 (.tmp 3) (.tmp 9) rfl (w.heap.size + 1) 0 (rvL (bareR r)).toArray rfl rfl (there_of_row (YX.out u2 O2) (Nat.le_refl 21)) (SA (bareR r)) ON2.out ?_
  have RG := range_setCells (cs := (rvL (bareR r)).toArray) (YX.out u2 O2) rfl
  have BX := below_setCells (w' := u2) (w.heap.size + 1) (rvL (bareR r)) 0 u2 (BA.out u2 O2) (by omega)
  rw [List.toList_toArray] at RG ⊢
  generalize u2.setCells (w.heap.size + 1) 0 (rvL (bareR r)) = W3 at *
  have LV := Lib.hid (run_loadVar_mid (P := Tryz.prog) W3 (w.heap.size + 1) 0 56 (rvL (bareR r)) _ RG Tryz.underlying56 rfl SZ)
  clear RG
  go_simp
  go_step
  go_step
  go_step
  go_step
  go_step
  try go_step
  exact bodyPost_ret (v := .agg (rvL (bareR r)).toArray) (results_cell1 (i := 3) (t := 56) rfl rfl LV.out) rfl ⟨by rw [PE.out], BX⟩
end Go.Proofs.YtniklmikdkjgiaaGreatDoor
namespace Go.Proofs.YtniklmikdkjgiaaGreatDoor
open Go.RowKit
section
variable {α β : Type} {f : α → β → Bool}
end
def sameS (s t : Se) : Bool := decide (s.index = t.index) && decide (s.sig = t.sig) && decide (s.path = t.path)
def pubC (a b : Rc) : Bool := decide (a.kind = b.kind) && decide (a.author = b.author) && decide (a.number = b.number) && decide (a.clock = b.clock) && decide (a.branch = b.branch) && decide (a.parents = b.parents) && all2 sameE a.edits b.edits && decide (a.target = b.target) && decide (a.yes = b.yes) && decide (a.order = b.order) && decide (a.frm = b.frm)
def prvC (a b : Pr) : Bool := decide (a.name = b.name) && decide (a.reason = b.reason) && decide (a.sources = b.sources) && decide (a.trace = b.trace)
def sameR (a b : Rc) : Bool := pubC a b && prvC a.priv b.priv && sameS a.sla b.sla && sameS a.priv.sla b.priv.sla
theorem sameS_iff (s t : Se) : sameS s t = true ↔ s = t := by
 obtain ⟨a, b, c⟩ := s
 obtain ⟨d, e, f⟩ := t
 simp only [sameS, Bool.and_eq_true, decide_eq_true_eq, Se.mk.injEq, and_assoc]
theorem sameR_iff (a b : Rc) : sameR a b = true ↔ a = b := by
 obtain ⟨a1, a2, a3, a4, a5, a6, a7, a8, a9, a10, a11, a12, ⟨p1, p2, p3, p4, p5⟩⟩ := a
 obtain ⟨b1, b2, b3, b4, b5, b6, b7, b8, b9, b10, b11, b12, ⟨q1, q2, q3, q4, q5⟩⟩ := b
 simp only [sameR, pubC, prvC, Bool.and_eq_true, decide_eq_true_eq, sameS_iff, all2_eq sameE_iff, Rc.mk.injEq, Pr.mk.injEq]
 constructor
 ·rintro ⟨⟨⟨⟨⟨⟨⟨⟨⟨⟨⟨⟨⟨h1, h2⟩, h3⟩, h4⟩, h5⟩, h6⟩, h7⟩, h8⟩, h9⟩, h10⟩, h11⟩, ⟨⟨k1, k2⟩, k3⟩, k4⟩, h12⟩, k5⟩
  exact ⟨h1, h2, h3, h4, h5, h6, h7, h8, h9, h10, h11, h12, k1, k2, k3, k4, k5⟩
 ·rintro ⟨h1, h2, h3, h4, h5, h6, h7, h8, h9, h10, h11, h12, k1, k2, k3, k4, k5⟩
  exact ⟨⟨⟨⟨⟨⟨⟨⟨⟨⟨⟨⟨⟨h1, h2⟩, h3⟩, h4⟩, h5⟩, h6⟩, h7⟩, h8⟩, h9⟩, h10⟩, h11⟩, ⟨⟨k1, k2⟩, k3⟩, k4⟩, h12⟩, k5⟩
theorem rv_sla {w : World} {b o : Nat} {r : RV} (h : w.rangeAt b o (rvL r)) : w.rangeAt b (o + 11) (slL r.sla) := range_sub 11 h (fun j v hv => by
 match j, hv with
 | 0, hv => exact hv
 | 1, hv => exact hv
 | 2, hv => exact hv)
theorem rv_psl {w : World} {b o : Nat} {r : RV} (h : w.rangeAt b o (rvL r)) : w.rangeAt b (o + 18) (slL r.pseal) := range_sub 18 h (fun j v hv => by
 match j, hv with
 | 0, hv => exact hv
 | 1, hv => exact hv
 | 2, hv => exact hv)
theorem pr_psl {w : World} {b o : Nat} {r : RV} (h : w.rangeAt b o (prL r)) : w.rangeAt b (o + 4) (slL r.pseal) := range_sub 4 h (fun j v hv => by
 match j, hv with
 | 0, hv => exact hv
 | 1, hv => exact hv
 | 2, hv => exact hv)
theorem box_new {W z : World} {cs : Array Value} {T : TypeId} (_ : OldB W (z.alloc (.cells cs T))) : (z.alloc (.cells cs T)).heap[z.heap.size]? = some (.cells cs T (0, 0)) := heap_alloc_new z _
theorem box_newD {W z : World} {cs : Array Value} {T : TypeId} (_ : OldB W (z.alloc (.cells cs T)).drew) : (z.alloc (.cells cs T)).drew.heap[z.heap.size]? = some (.cells cs T (0, 0)) := heap_alloc_new z _
theorem box_keep {W z : World} {o X : Obj} {p : Nat} (_ : OldB W (z.alloc o)) (h : z.heap[p]? = some X) : (z.alloc o).heap[p]? = some X := (alloc_old _ _ (lt_of_block' h)).trans h
section
variable {P : Program} {ops : Array Oper} {Q : Exit → Act → World → Prop} {md : Region.Mode} {S : World → Prop}
end
section
variable {o : Oper} {a : Act} {w : World} {Q : Exit → Act → World → Prop}
end
end Go.Proofs.YtniklmikdkjgiaaGreatDoor
namespace Go.Proofs.YtniklmikdkjgiaaGreatDoor
open Go.RowKit
def cleanL (L : List Rc) (l : List RV) : List RV := l.map (cleanR L)
theorem mapped_any (bm : Nat) (L : List Rc) (A : Option Addr) (n c : Nat) (l : List RV) (w : World) (hn : n = l.length) (h : Rs w A l) (hm : w.heap[bm]? = some (.cells (askRow L) 77 (0, 0))) :
  Calls Tryz.prog 51 #[.slice A n c, .func (.func 52) #[] #[.pointer (some ⟨bm, 0, none⟩)]] w fun e w' => ∃ v, e = .returned v ∧ w'.ownsRow w.heap.size 56 21 v (cleanL L l).length (rvsL (cleanL L l)) ∧ Below w.heap.size w w' := by
 have hl : n ≤ 100000 := by rw [hn]; exact h.len
 have H := Lib.hid h
 have HN := Lib.hid hn
 have HM := Lib.hid hm
 have SZ : ∀ x : RV, (Tryz.prog.info? 56).map (·.size) = some (rvL x).length := fun x => by kernel_rfl
 have SA : ∀ x : RV, (Tryz.prog.info? 56).map (·.size) = some (rvL x).toArray.size := fun x => by kernel_rfl
 have ST : Hid (w.ownsRow w.heap.size 56 21 (.slice none 0 0) (cleanL L (l.take 0)).length (rvsL (cleanL L (l.take 0)))) := Lib.hid (World.ownsRow_nil _ _ _ _)
 have B0 : Hid (Below w.heap.size w w) := Lib.hid (Below.refl _ _)
 clear h hn hm
 go_enter Tryz.func51, Tryz.ntmps51
 go_wp2_with fail
 go_loopw [5, 7, 10] (fun s5 s7 s10 wr => ∃ k : Nat, k ≤ n ∧ s10 = .int .i64 (k : Int) ∧ (∃ p, s7 = p) ∧ Hid (wr.ownsRow w.heap.size 56 21 s5 (cleanL L (l.take k)).length (rvsL (cleanL L (l.take k)))) ∧ Hid (Below w.heap.size w wr)) (fun _ _ i _ => n - (intOf i).toNat)
 case atStart => exact ⟨0, Nat.zero_le _, rfl, ⟨_, rfl⟩, ST, B0⟩
 case round =>
  clear ST B0
  obtain ⟨k, hk, rfl, ⟨p7, rfl⟩, OW, BL⟩ := hrel
  by_cases hlt : k < n
  ·have hkl : k < l.length := by rw [← HN.out]; exact hlt
   have d1 : (k : Int) < (n : Int) := by omega
   have d2 : (0 : Int) ≤ (k : Int) := by omega
   obtain ⟨b, off, rfl, hb, hc⟩ := rvs_at (H.out.rd.below BL.out) hkl
   have HI := H.out.is l[k] (List.getElem_mem hkl)
   have TK : Hid (cleanL L (l.take (k + 1)) = cleanL L (l.take k) ++ [cleanR L l[k]]) := Lib.hid (by unfold cleanL; rw [List.take_succ_eq_append_getElem hkl, List.map_append]; rfl)
   have LE : (cleanL L (l.take k)).length ≤ k := by unfold cleanL; rw [List.length_map, List.length_take]; omega
   generalize cleanL L (l.take k) = G at *
   generalize l[k] = r at *
   have ONE := Lib.hid (rvL_one r ⟨_, HI⟩)
   have ON2 := Lib.hid (rvL_one (cleanR L r) ⟨_, cleanR_is HI⟩)
   have HC : Hid (wr.rangeAt b (off + k * 21) (rvL r)) := Lib.hid (fun j v hj => hc j v hj)
   obtain ⟨X, hX⟩ : ∃ X, X = wr.alloc (.cells (rvL r).toArray 56) := ⟨_, rfl⟩
   obtain ⟨bx, hbx⟩ : ∃ bx, wr.heap.size = bx := ⟨_, rfl⟩
   have BX : Hid (Below wr.heap.size wr X) := Lib.hid (by rw [hX]; exact (Below.refl _ _).alloc (Nat.le_refl _) _)
   have XX : Hid (X.heap[bx]? = some (.cells (rvL r).toArray 56 (0, 0))) := Lib.hid (by rw [hX, ← hbx]; exact heap_alloc_new wr _)
   have RX : Hid (X.rangeAt bx 0 (rvL r)) := Lib.hid (by have := range_of_row XX.out; simpa using this)
   have BW : Hid (Below w.heap.size w X) := Lib.hid (BL.out.trans (BX.out.mono BL.out.size))
   have CA := clean1_any bm L r X ((BW.out.block bm (lt_of_block HM.out)).trans HM.out) (HI.below BW.out)
   unfold rvA at CA
   have CC := Lib.hid CA
   have X1 := Lib.hid hbx
   have X0 := Lib.hid hX
   have FS := Lib.hid (fun z (hz : z.length = 21) => setCells_fresh wr z (rvL r) hz rfl ONE.out)
   clear hc HI hX hbx CA
   go_upto_region 4 with fail
   go_wp2_with (first
    | (refine wpList_load_mid rfl 56 (.tmp 12) rfl b (off + k * 21) rfl (rvL r) _ HC.out Tryz.underlying56 rfl (SZ r) ?_)
    | (refine wpList_store_mid rfl 56 (.tmp 7) (.tmp 13) rfl wr.heap.size 0 (rvL r).toArray rfl rfl (there_of_row (heap_alloc_new wr _) (Nat.le_refl 21)) (SA r) ONE.out ?_; rw [List.toList_toArray, FS.out _ rfl, ← X0.out, X1.out])
    | (refine wpList_load_mid rfl 56 (.tmp 7) rfl bx 0 rfl (rvL r) _ RX.out Tryz.underlying56 rfl (SZ r) ?_))
   (with_reducible refine CC.out.mono ?_)
   rintro e u1 ⟨rfl, b1⟩
   generalize cleanR L r = cr at *
   have B2 := Lib.hid (BW.out.trans (b1.mono BW.out.size))
   have bz := B2.out.size
   have O1 := Lib.hid (own_sameG OW.out (fun g hg => ((BX.out.trans (b1.mono BX.out.size)).block g (OW.out.lt g hg).2)))
   clear b1 CC OW BX XX RX BW HC X0 X1 FS
   go_wp2_with (first | (refine wpList_recs rfl [cr] 1 _ rfl rfl (by decide) (by decide) (by kernel_rfl) ?_; rw [rvsL_one]) | (at_builtin; refine wpList_appNG rfl (.tmp 14) (.tmp 18) 22 rfl Tryz.underlying22 info_rec rfl (by decide) w.heap.size _ G.length (rvsL G) (rvL cr).toArray 1 (by decide) rfl (by intro y hy; exact (Array.all_eq_true_iff_forall_mem.1 ON2.out) y (by simpa using hy)) rfl rfl rfl O1.out bz (by omega) (by omega) ?_; intro g7 c7 w7 ho7 hg7 hl7 hb7))
   refine ⟨⟨k + 1, by omega, by go_num, ⟨_, rfl⟩, ?_, Lib.hid (B2.out.trans hb7)⟩, by simp [intOf]; omega⟩
   rw [TK.out, List.length_append, rvsL_app, rvsL_one]
   exact Lib.hid ho7
  ·have d1 : ¬ (k : Int) < (n : Int) := by omega
   have TT : Hid (l.take k = l) := Lib.hid (List.take_of_length_le (by rw [← HN.out]; omega))
   rw [TT.out] at OW
   go_wp2_with fail
   go_ret
   exact ⟨_, rfl, OW.out, BL.out⟩
theorem clean_any (A : Option Addr) (n c : Nat) (l : List RV) (w : World) (hn : n = l.length) (h : Rs w A l) (ht : Tab w) :
  Calls Tryz.prog 21 #[.slice A n c] w fun e w' => ∃ v, e = .returned v ∧ w'.ownsRow w.heap.size 56 21 v (cleanL (rcsC l) l).length (rvsL (cleanL (rcsC l) l)) ∧ Below w.heap.size w w' := by
 have AA := asked_any A n c l w hn h ht
 have H := Lib.hid h
 have HN := Lib.hid hn
 obtain ⟨L, hL⟩ : ∃ L, rcsC l = L := ⟨_, rfl⟩
 rw [hL] at AA ⊢
 obtain ⟨K, hK⟩ : ∃ K : List Value, askRow L = K.toArray := ⟨(askRow L).toList, (Array.toArray_toList).symm⟩
 have HK := Lib.hid hK
 have K1 : (askRow L).all (·.oneCell') = true := Array.all_eq_true_iff_forall_mem.2 (fun v hv => by
  simp only [askRow, Array.mem_ofFn] at hv
  obtain ⟨i, rfl⟩ := hv
  rfl)
 have K2 : (askRow L).size = 60 := askRow_size _
 have K3 : (Tryz.prog.info? 77).map (·.size) = some 60 := by kernel_rfl
 rw [hK] at AA K1 K2
 have AB := Lib.hid AA
 have KA := Lib.hid K1
 have KB : Hid (K.length = 60) := Lib.hid (by simpa using K2)
 have FS := Lib.hid (fun (u : World) z (hz : z.length = 60) => setCells_freshG (P := Tryz.prog) u 77 z K (by rw [List.size_toArray, KB.out]; exact K3) (by rw [hz, KB.out]) K1)
 have SZ : Hid ((Tryz.prog.info? 77).map (·.size) = some K.toArray.size) := Lib.hid (by rw [List.size_toArray, KB.out]; exact K3)
 clear h hn ht hL hK AA K1 K2 K3
 go_enter Tryz.func21, Tryz.ntmps21
 go_wp2_with fail
 (with_reducible refine AB.out.mono ?_)
 rintro e u1 ⟨rfl, b1⟩
 obtain ⟨X, hX⟩ : ∃ X, X = u1.alloc (.cells K.toArray 77) := ⟨_, rfl⟩
 obtain ⟨bx, hbx⟩ : ∃ bx, u1.heap.size = bx := ⟨_, rfl⟩
 have BW : Hid (Below w.heap.size w X) := Lib.hid (by rw [hX]; exact b1.alloc b1.size _)
 have XX : X.heap[bx]? = some (.cells K.toArray 77 (0, 0)) := by rw [hX, ← hbx]; exact heap_alloc_new u1 _
 rw [← HK.out] at XX
 have MM := Lib.hid (mapped_any bx L A n c l X HN.out (H.out.below BW.out) XX)
 have X1 := Lib.hid hbx
 have X0 := Lib.hid hX
 clear hX hbx XX AB b1 H HN
 go_wp2_with (refine wpList_store_mid rfl 77 (.tmp 3) (.tmp 5) rfl u1.heap.size 0 K.toArray rfl rfl (there_of_row (heap_alloc_new u1 _) (by rw [List.size_toArray, KB.out]; exact Nat.le_refl _)) SZ.out KA.out ?_; rw [List.toList_toArray, FS.out u1 _ rfl, ← X0.out, X1.out])
 (with_reducible refine MM.out.mono ?_)
 rintro e u2 ⟨v, rfl, ho, b2⟩
 have B2 := Lib.hid (BW.out.trans (b2.mono BW.out.size))
 have HO := Lib.hid (own_baseG BW.out.size ho)
 clear ho b2 MM BW
 go_wp2_with fail
 go_ret
 exact ⟨_, rfl, HO.out, B2.out⟩
end Go.Proofs.YtniklmikdkjgiaaGreatDoor
