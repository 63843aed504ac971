import Derived.Test.YtniklmikdkjgiaaGreatDoorUXO
import Derived.Test.YtniklmikdkjgiaaGreatDoorVYJ
set_option linter.all false
set_option maxHeartbeats 16000000
set_option maxRecDepth 100000
namespace Go.Proofs.YtniklmikdkjgiaaGreatDoor
open Go.RowKit
def hexT : Tx := [48, 49, 50, 51, 52, 53, 54, 55, 56, 57, 97, 98, 99, 100, 101, 102]
def saidR (i : Int) (s : Tx) : RV := ⟨2, i, 1, 1, mainT, [], .slice none 0 0, [], .slice none 0 0, hexT, false, 0, [], zeroSl, s, [], [], .slice none 0 0, [], .slice none 0 0, zeroSl⟩
theorem said_any (i : Int) (s : Tx) (w : World) :
  Calls Tryz.prog 46 #[.int .i64 i, .string (mkB s)] w fun e w' => e = .returned (.agg (rvL (saidR i s)).toArray) ∧ Below w.heap.size w w' := by
 obtain ⟨cs, hcs⟩ : ∃ cs, cs = rvL (saidR i s) := ⟨_, rfl⟩
 have ONE : cs.toArray.all (·.oneCell') = true := by rw [hcs]; simp [rvL, saidR, forgetR, zeroSl, Value.oneCell']
 have ZA : (Tryz.prog.info? 56).map (·.size) = some cs.toArray.size := by rw [hcs]; kernel_rfl
 have ZL : (Tryz.prog.info? 56).map (·.size) = some cs.length := by rw [hcs]; kernel_rfl
 have NL : 21 = cs.length := by rw [hcs]; rfl
 have FX := Lib.hid (fun z (hz : z.length = 21) => setCells_freshG (P := Tryz.prog) w 56 z cs ZA (hz.trans NL) ONE)
 have NA : cs.toArray.size ≤ 21 := by rw [hcs]; exact Nat.le_refl 21
 have BX : Hid (Below w.heap.size w (w.alloc (.cells cs.toArray 56))) := Lib.hid ((Below.refl _ _).alloc (Nat.le_refl _) _)
 have LV := Lib.hid (run_loadVar_mid (P := Tryz.prog) (w.alloc (.cells cs.toArray 56)) w.heap.size 0 56 cs _ (by have := range_of_row (heap_alloc_new w (.cells cs.toArray 56)); simpa using this) Tryz.underlying56 rfl ZL)
 have HC := Lib.hid hcs
 rw [← hcs]
 clear hcs
 go_enter Tryz.func46, Tryz.ntmps46
 go_upto_region 1 with fail
 refine wp_region_lit ?_
 iterate 12 go_step
 refine wpList_store_mid rfl 56 (.tmp 4) (.tmp 8) rfl w.heap.size 0 cs.toArray rfl (by rw [HC.out]; rfl) (there_of_row (heap_alloc_new w _) NA) ZA ONE ?_
 rw [List.toList_toArray]
 have FY := FX.out zRow rfl
 unfold zRow at FY
 rw [FY]
 generalize w.alloc (.cells cs.toArray 56) = W3 at *
 go_simp
 go_step
 go_step
 go_step
 go_step
 try go_step
 exact bodyPost_ret (v := .agg cs.toArray) (results_cell1 (i := 4) (t := 56) rfl rfl LV.out) rfl ⟨rfl, BX.out⟩
theorem forget_any (i : Int) (w : World) :
  Calls Tryz.prog 47 #[.int .i64 i] w fun e w' => e = .returned (.agg (rvL (forgetR i)).toArray) ∧ Below w.heap.size w w' := by
 obtain ⟨cs, hcs⟩ : ∃ cs, cs = rvL (forgetR i) := ⟨_, rfl⟩
 have ONE : cs.toArray.all (·.oneCell') = true := by rw [hcs]; simp [rvL, saidR, forgetR, zeroSl, Value.oneCell']
 have ZA : (Tryz.prog.info? 56).map (·.size) = some cs.toArray.size := by rw [hcs]; kernel_rfl
 have ZL : (Tryz.prog.info? 56).map (·.size) = some cs.length := by rw [hcs]; kernel_rfl
 have NL : 21 = cs.length := by rw [hcs]; rfl
 have FX := Lib.hid (fun z (hz : z.length = 21) => setCells_freshG (P := Tryz.prog) w 56 z cs ZA (hz.trans NL) ONE)
 have NA : cs.toArray.size ≤ 21 := by rw [hcs]; exact Nat.le_refl 21
 have BX : Hid (Below w.heap.size w (w.alloc (.cells cs.toArray 56))) := Lib.hid ((Below.refl _ _).alloc (Nat.le_refl _) _)
 have LV := Lib.hid (run_loadVar_mid (P := Tryz.prog) (w.alloc (.cells cs.toArray 56)) w.heap.size 0 56 cs _ (by have := range_of_row (heap_alloc_new w (.cells cs.toArray 56)); simpa using this) Tryz.underlying56 rfl ZL)
 have HC := Lib.hid hcs
 rw [← hcs]
 clear hcs
 go_enter Tryz.func47, Tryz.ntmps47
 go_upto_region 1 with fail
 refine wp_region_lit ?_
 iterate 6 go_step
 refine wpList_store_mid rfl 56 (.tmp 2) (.tmp 4) rfl w.heap.size 0 cs.toArray rfl (by rw [HC.out]; rfl) (there_of_row (heap_alloc_new w _) NA) ZA ONE ?_
 rw [List.toList_toArray]
 have FY := FX.out zRow rfl
 unfold zRow at FY
 rw [FY]
 generalize w.alloc (.cells cs.toArray 56) = W3 at *
 go_simp
 go_step
 go_step
 go_step
 go_step
 try go_step
 exact bodyPost_ret (v := .agg cs.toArray) (results_cell1 (i := 2) (t := 56) rfl rfl LV.out) rfl ⟨rfl, BX.out⟩
theorem saidP (i : Int) (s : Tx) (hs : s.length ≤ 1000000) : PlainR (saidR i s) :=
 ⟨fun w => ⟨sl_nil w, ⟨none, 0, rfl, es_nil w⟩, zeroSl_is w, sl_nil w, sl_nil w, zeroSl_is w⟩, ⟨Nat.le_of_ble_eq_true rfl, Nat.le_of_ble_eq_true rfl, Nat.le_of_ble_eq_true rfl, hs, Nat.le_of_ble_eq_true rfl, Nat.le_of_ble_eq_true rfl, (fun _ h => by cases h), Nat.le_of_ble_eq_true rfl, (fun _ h => by cases h), Nat.le_of_ble_eq_true rfl, zeroSe_sz, zeroSe_sz⟩⟩
theorem newRs {W w : World} (_ : OldB W w) (L : List RV) (hL : ∀ r ∈ L, PlainR r) (hn : L.length ≤ 1000) : Rs (w.alloc (.cells (rvsL L).toArray 56)) (some ⟨w.heap.size, 0, none⟩) L :=
 ⟨Rd.of_row (heap_alloc_new w _) (by simp), fun r hr => (hL r hr).is _, fun r hr => (hL r hr).sz, by omega⟩
theorem hsame (r : RV) (h : PlainR r) (w : World) : Calls Tryz.prog 39 #[.agg (rvL r).toArray, .agg (rvL r).toArray] w fun e w' => e = .returned (.bool true) ∧ Below w.heap.size w w' := by
 have := rsamer_any r r w (h.is w) (h.is w) h.sz h.sz
 rwa [(sameR_iff _ _).2 rfl] at this
theorem cleanL_len (L : List Rc) (l : List RV) : (cleanL L l).length = l.length := by unfold cleanL; rw [List.length_map]
theorem hclean (A : Option Addr) (n c : Nat) (l : List RV) (w : World) (hn : n = l.length) (h : Rs w A l) (ht : Tab w) :
  Calls Tryz.prog 21 #[.slice A n c] w fun e w' => (∃ A' c', e = .returned (.slice A' n c') ∧ Rs w' A' (cleanL (rcsC l) l) ∧ n ≤ c') ∧ Below w.heap.size w w' := by
 refine (clean_any A n c l w hn h ht).mono ?_
 rintro e w' ⟨v, rfl, ho, hb⟩
 obtain ⟨A', c', rfl, hr, hc⟩ := own_slG ho
 rw [cleanL_len, ← hn] at hc
 refine ⟨⟨A', c', by rw [cleanL_len, ← hn], ⟨hr, fun r hr => ?_, fun r hr => ?_, by rw [cleanL_len]; exact h.len⟩, hc⟩, hb⟩
 ·obtain ⟨x, hx, rfl⟩ := List.mem_map.1 hr
  exact cleanR_is ((h.is x hx).below hb)
 ·obtain ⟨x, hx, rfl⟩ := List.mem_map.1 hr
  exact cleanR_sz (h.sz x hx)
theorem hforgot (A : Option Addr) (n c : Nat) (l : List RV) (w : World) (hn : n = l.length) (h : Rs w A l) (ht : Tab w) :
  Calls Tryz.prog 18 #[.slice A n c] w fun e w' => (∃ A' c', e = .returned (.slice A' (forgotF (rcsC l)).length c') ∧ Rd w' A' (intsL (forgotF (rcsC l)))) ∧ Below w.heap.size w w' := by
 refine (forgotten_any A n c l w hn h ht).mono ?_
 rintro e w' ⟨v, rfl, ho, hb⟩
 obtain ⟨A', c', rfl, hr, hc⟩ := own_slG ho
 exact ⟨⟨A', c', rfl, hr⟩, hb⟩
theorem forgot_len (L : List Rc) : (forgotF L).length ≤ 60 := forgK_len L 60
end Go.Proofs.YtniklmikdkjgiaaGreatDoor
namespace Go.Proofs.YtniklmikdkjgiaaGreatDoor
open Go.RowKit
end Go.Proofs.YtniklmikdkjgiaaGreatDoor
