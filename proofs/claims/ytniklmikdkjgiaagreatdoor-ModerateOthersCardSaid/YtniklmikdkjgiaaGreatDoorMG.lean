/- WALKS: law29.change, order (printed by gen_mg.py). -/
import Derived.Test.YtniklmikdkjgiaaGreatDoorMF
set_option linter.unusedSimpArgs false
set_option linter.unusedVariables false
namespace Go.Proofs.YtniklmikdkjgiaaGreatDoor
open Go.RowKit

def dropE (t : Tx) : EV := ⟨5, t, [], [], 0, 0, [], [], [], .slice none 0 0, zRO⟩
def chgR (t : Tx) (v : Value) : RV := ⟨1, 1, 1, 1, mainT, [], .slice none 0 0, [dropE t], v, [], false, 0, [], zeroSl, [], [], [], .slice none 0 0, [], .slice none 0 0, zeroSl⟩
def ordR (a n k o : Int) (t : Tx) (l : List EV) (v : Value) : RV := ⟨3, a, n, k, mainT, [], .slice none 0 0, l, v, t, false, o, [], zeroSl, [], [], [], .slice none 0 0, [], .slice none 0 0, zeroSl⟩
theorem dropE_is (t : Tx) (w : World) : EvIs w (dropE t) := ⟨sl_nil w, ⟨sl_nil w, ⟨none, 0, rfl, Rd.nil_ _ _⟩⟩⟩
theorem drop_es {w : World} {g : Nat} {t : Tx} (h : w.heap[g]? = some (.cells (evL (dropE t)).toArray 93 (0, 0))) (ht : t.length ≤ 1000000) : Es w (some ⟨g, 0, none⟩) [dropE t] := by
  refine ⟨?_, ?_, ?_, ?_, by show 1 ≤ 100000; decide⟩
  · have e : evsL [dropE t] = evL (dropE t) := by simp [evsL]
    rw [e]
    exact Rd.of_row h (by simp)
  · intro e he; rw [List.mem_singleton.1 he]; exact dropE_is t w
  · intro e he; rw [List.mem_singleton.1 he]
    exact ⟨ht, Nat.zero_le _, Nat.zero_le _, Nat.zero_le _, Nat.zero_le _, Nat.zero_le _, (fun _ h => by cases h), ⟨Nat.zero_le _, Nat.zero_le _, (fun _ h => by cases h), Nat.zero_le _, (fun _ h => by cases h)⟩, Nat.zero_le _⟩
  · intro e he; rw [List.mem_singleton.1 he]
    exact ⟨fun A n c h => by injection h with _ h1 h2; omega, fun A n c h => by injection h with _ h1 h2; omega⟩
theorem mod_is {w : World} {k a n c o : Int} {t : Tx} {l : List EV} {v : Value} (h : ∃ A c, v = .slice A l.length c ∧ Es w A l) : RvIs w ⟨k, a, n, c, mainT, [], .slice none 0 0, l, v, t, false, o, [], zeroSl, [], [], [], .slice none 0 0, [], .slice none 0 0, zeroSl⟩ :=
  ⟨sl_nil w, h, zeroSl_is w, sl_nil w, sl_nil w, zeroSl_is w⟩
theorem mod_sz {k a n c o : Int} {t : Tx} {l : List EV} {v : Value} (ht : t.length ≤ 1000000) : RcSz (RV.c ⟨k, a, n, c, mainT, [], .slice none 0 0, l, v, t, false, o, [], zeroSl, [], [], [], .slice none 0 0, [], .slice none 0 0, zeroSl⟩) :=
  ⟨Nat.le_of_ble_eq_true rfl, ht, Nat.zero_le _, Nat.zero_le _, Nat.zero_le _, Nat.zero_le _, (fun _ h => by cases h), Nat.zero_le _, (fun _ h => by cases h), Nat.zero_le _, zeroSe_sz, zeroSe_sz⟩
theorem But.setCellsG {X : Nat → Prop} {a : World} {g : Nat} (hg : X g) : ∀ (vs : List Value) (o : Nat) (b : World), But X a b → But X a (b.setCells g o vs)
  | [], _, _, h => h
  | v :: vs, o, b, h => But.setCellsG hg vs (o + 1) _ (But.set (p := ⟨g, o, none⟩) h hg v)
set_option maxHeartbeats 2000000 in
set_option maxRecDepth 100000 in
theorem change_any (t : Tx) (w : World) :
    Calls Tryz.prog 62 #[.string (mkB t)] w fun e w' => ∃ g, e = .returned (.agg (rvL (chgR t (.slice (some ⟨g, 0, none⟩) 1 1))).toArray) ∧ w.heap.size ≤ g ∧ w'.heap[g]? = some (.cells (evL (dropE t)).toArray 93 (0, 0)) ∧ Below w.heap.size w w' := by
  obtain ⟨g, hg⟩ : ∃ g, w.heap.size + 1 = g := ⟨_, rfl⟩
  obtain ⟨cs, hcs⟩ : ∃ cs, cs = rvL (chgR t (.slice (some ⟨g, 0, none⟩) 1 1)) := ⟨_, rfl⟩
  have ONE : cs.toArray.all (·.oneCell') = true := by rw [hcs]; simp [rvL, chgR, zeroSl, Value.oneCell']
  have ZA : (Tryz.prog.info? 56).map (·.size) = some cs.toArray.size := by rw [hcs]; kernel_rfl
  have ZL : (Tryz.prog.info? 56).map (·.size) = some cs.length := by rw [hcs]; kernel_rfl
  have NA : cs.toArray.size ≤ 21 := by rw [hcs]; exact Nat.le_refl 21
  have NL : cs.length = 21 := by rw [hcs]; rfl
  obtain ⟨W, hW⟩ : ∃ W, W = (w.alloc (.cells #[.int .i64 0, .int .i64 0, .int .i64 0, .int .i64 0, .string ⟨#[]⟩, .slice none 0 0, .slice none 0 0, .string ⟨#[]⟩, .bool false, .int .i64 0, .string ⟨#[]⟩, .int .i64 0, .slice none 0 0, .slice none 0 0, .string ⟨#[]⟩, .string ⟨#[]⟩, .slice none 0 0, .slice none 0 0, .int .i64 0, .slice none 0 0, .slice none 0 0] 56)).alloc (.cells #[.int .i64 5, .string (mkB t), .string ⟨#[]⟩, .string ⟨#[]⟩, .int .i64 0, .int .i64 0, .string ⟨#[]⟩, .string ⟨#[]⟩, .slice none 0 0, .string ⟨#[]⟩, .int .i64 0, .int .i64 0, .int .i64 0, .slice none 0 0, .slice none 0 0] 93) := ⟨_, rfl⟩
  have XZ : W.heap[w.heap.size]? = some (.cells #[.int .i64 0, .int .i64 0, .int .i64 0, .int .i64 0, .string ⟨#[]⟩, .slice none 0 0, .slice none 0 0, .string ⟨#[]⟩, .bool false, .int .i64 0, .string ⟨#[]⟩, .int .i64 0, .slice none 0 0, .slice none 0 0, .string ⟨#[]⟩, .string ⟨#[]⟩, .slice none 0 0, .slice none 0 0, .int .i64 0, .slice none 0 0, .slice none 0 0] 56 (0, 0)) := by rw [hW]; exact (alloc_old _ _ (by simp)).trans (heap_alloc_new w _)
  have XE : W.heap[g]? = some (.cells (evL (dropE t)).toArray 93 (0, 0)) := by rw [hW, ← hg]; exact alloc_new' _ _ _ (by simp)
  have BW : Below w.heap.size w W := by rw [hW]; exact ((Below.refl _ _).alloc (Nat.le_refl _) _).alloc (by simp) _
  have RG := range_setCells (cs := cs.toArray) XZ (by rw [List.size_toArray, NL]; rfl)
  rw [List.toList_toArray] at RG
  have BB : Below w.heap.size w (W.setCells w.heap.size 0 cs) := below_setCells (w' := W) w.heap.size cs 0 W BW (Nat.le_refl _)
  have BE : (W.setCells w.heap.size 0 cs).heap[g]? = some (.cells (evL (dropE t)).toArray 93 (0, 0)) := ((But.setCellsG (X := (· = w.heap.size)) rfl cs 0 W (But.refl _ _)).block g (lt_of_block XE) (by omega)).trans XE
  have LV := run_loadVar_mid (P := Tryz.prog) (W.setCells w.heap.size 0 cs) w.heap.size 0 56 cs _ RG Tryz.underlying56 rfl ZL
  have HC := Lib.hid hcs
  have HG := Lib.hid hg
  have HW := Lib.hid hW
  have BBH := Lib.hid BB
  have BEH := Lib.hid BE
  have TH := Lib.hid (there_of_row XZ (show cs.toArray.size ≤ 21 from NA))
  clear BB BE BW XE XZ RG hcs hg hW
  refine Calls.mono (R := fun e w' => e = .returned (.agg cs.toArray) ∧ w' = W.setCells w.heap.size 0 cs) ?_ (by
    rintro e w' ⟨rfl, rfl⟩
    exact ⟨g, by rw [HC.out], by have := HG.out; omega, BEH.out, BBH.out⟩)
  go_enter Tryz.func62, Tryz.ntmps62
  go_wp2_with (rw [← HW.out]; refine wpList_store_mid rfl 56 (.tmp 2) (.tmp 6) rfl w.heap.size 0 cs.toArray rfl (by rw [HC.out, ← HG.out]; rfl) TH.out ZA ONE ?_; rw [List.toList_toArray])
  exact bodyPost_ret (v := .agg cs.toArray) (results_cell1 (i := 2) (t := 56) rfl rfl LV) rfl ⟨rfl, rfl⟩
set_option maxHeartbeats 2000000 in
set_option maxRecDepth 100000 in
theorem order_any (a n o : Int) (tr : RV) (l : List EV) (A : Option Addr) (c : Nat) (w : World) (hn : 0 ≤ n ∧ n ≤ 100) (h : RvIs w tr) (hs : RcSz tr.c) (ht : Tab w) :
    Calls Tryz.prog 63 #[.int .i64 a, .int .i64 n, .int .i64 o, .agg (rvL tr).toArray, .slice A l.length c] w fun e w' => e = .returned (.agg (rvL (ordR a n (1 + n) o (idC tr.c) l (.slice A l.length c))).toArray) ∧ Below w.heap.size w w' := by
  obtain ⟨cs, hcs⟩ : ∃ cs, cs = rvL (ordR a n (1 + n) o (idC tr.c) l (.slice A l.length c)) := ⟨_, rfl⟩
  have ONE : cs.toArray.all (·.oneCell') = true := by rw [hcs]; simp [rvL, ordR, zeroSl, Value.oneCell']
  have ZA : (Tryz.prog.info? 56).map (·.size) = some cs.toArray.size := by rw [hcs]; kernel_rfl
  have ZL : (Tryz.prog.info? 56).map (·.size) = some cs.length := by rw [hcs]; kernel_rfl
  have NA : cs.toArray.size ≤ 21 := by rw [hcs]; exact Nat.le_refl 21
  have NL : cs.length = 21 := by rw [hcs]; rfl
  obtain ⟨W, hW⟩ : ∃ W, W = (w.alloc (.cells (rvL tr).toArray 56)).alloc (.cells #[.int .i64 0, .int .i64 0, .int .i64 0, .int .i64 0, .string ⟨#[]⟩, .slice none 0 0, .slice none 0 0, .string ⟨#[]⟩, .bool false, .int .i64 0, .string ⟨#[]⟩, .int .i64 0, .slice none 0 0, .slice none 0 0, .string ⟨#[]⟩, .string ⟨#[]⟩, .slice none 0 0, .slice none 0 0, .int .i64 0, .slice none 0 0, .slice none 0 0] 56) := ⟨_, rfl⟩
  obtain ⟨g, hg⟩ : ∃ g, w.heap.size + 1 = g := ⟨_, rfl⟩
  have XR : W.heap[w.heap.size]? = some (.cells (rvL tr).toArray 56 (0, 0)) := by rw [hW]; exact (alloc_old _ _ (by simp)).trans (heap_alloc_new w _)
  have XZ : W.heap[g]? = some (.cells #[.int .i64 0, .int .i64 0, .int .i64 0, .int .i64 0, .string ⟨#[]⟩, .slice none 0 0, .slice none 0 0, .string ⟨#[]⟩, .bool false, .int .i64 0, .string ⟨#[]⟩, .int .i64 0, .slice none 0 0, .slice none 0 0, .string ⟨#[]⟩, .string ⟨#[]⟩, .slice none 0 0, .slice none 0 0, .int .i64 0, .slice none 0 0, .slice none 0 0] 56 (0, 0)) := by rw [hW, ← hg]; exact alloc_new' _ _ _ (by simp)
  have BW : Below w.heap.size w W := by rw [hW]; exact ((Below.refl _ _).alloc (Nat.le_refl _) _).alloc (by simp) _
  have RX : Hid (W.rangeAt w.heap.size 0 (rvL tr)) := Lib.hid (by have := range_of_row XR; simpa using this)
  have hg2 : w.heap.size ≤ g := by omega
  have IDC : Hid (Calls Tryz.prog 37 #[rvA tr] W fun e w' => e = .returned (.string (mkB (idC tr.c))) ∧ Below W.heap.size W w') := Lib.hid (id_any tr W (h.below BW) hs (ht.keep BW))
  unfold rvA at IDC
  have HC := Lib.hid hcs
  have HG := Lib.hid hg
  have HW := Lib.hid hW
  have XZH := Lib.hid XZ
  have BWH := Lib.hid BW
  have HG2 := Lib.hid hg2
  have e1 : IntKind.i64.wrap (1 + n) = 1 + n := IntWalk.i64_in _ (by omega)
  have HN := Lib.hid hn
  rw [← hcs]
  clear hcs hg hW h hs ht XR XZ BW hg2 hn
  go_enter Tryz.func63, Tryz.ntmps63
  go_upto_region 1 with fail
  rw [← HW.out]
  go_wp2_with (refine wpList_load_mid rfl 56 (.tmp 8) rfl w.heap.size 0 rfl (rvL tr) _ RX.out Tryz.underlying56 rfl (mrec_szL tr) ?_)
  (with_reducible refine IDC.out.mono ?_)
  rintro e u1 ⟨rfl, b1⟩
  have XU := Lib.hid ((b1.block g (lt_of_block XZH.out)).trans XZH.out)
  have RG := range_setCells (cs := cs.toArray) XU.out (by rw [List.size_toArray, NL]; rfl)
  rw [List.toList_toArray] at RG
  have BB := Lib.hid (below_setCells (w' := u1) g cs 0 u1 (BWH.out.trans (b1.mono BWH.out.size)) HG2.out)
  have LV := Lib.hid (run_loadVar_mid (P := Tryz.prog) (u1.setCells g 0 cs) g 0 56 cs _ RG Tryz.underlying56 rfl ZL)
  have TH := Lib.hid (there_of_row XU.out (show cs.toArray.size ≤ 21 from NA))
  clear RG b1 IDC XU XZH BWH RX
  try rw [HG.out]
  go_wp2_with (refine wpList_store_mid rfl 56 (.tmp 10) (.tmp 19) rfl g 0 cs.toArray rfl (by rw [HC.out]; rfl) TH.out ZA ONE ?_; rw [List.toList_toArray])
  exact bodyPost_ret (v := .agg cs.toArray) (results_cell1 (i := 10) (t := 56) rfl rfl LV.out) rfl ⟨rfl, BB.out⟩
end Go.Proofs.YtniklmikdkjgiaaGreatDoor
