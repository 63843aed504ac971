import Derived.Test.YtniklmikdkjgiaaGreatDoorCLD
import Derived.Test.YtniklmikdkjgiaaGreatDoorVXN
import Derived.Test.YtniklmikdkjgiaaGreatDoorVXO
import Derived.Test.YtniklmikdkjgiaaGreatDoorWD
set_option linter.all false
set_option maxHeartbeats 16000000
set_option maxRecDepth 100000
namespace Go.Proofs.YtniklmikdkjgiaaGreatDoor
open Go.RowKit
def annT : Tx := [65, 110, 110]
def benT : Tx := [66, 101, 110]
def rA : RV := saidR 1 annT
theorem rA_plain : PlainR rA := saidP _ _ (by decide)
theorem rB_plain : PlainR (saidR 1 []) := saidP _ _ (by decide)
theorem rN_plain : PlainR (saidR 1 benT) := saidP _ _ (by decide)
theorem two_plain {a b : RV} (ha : PlainR a) (hb : PlainR b) : ∀ r ∈ [a, b], PlainR r := fun r hr => by
 simp only [List.mem_cons, List.not_mem_nil, or_false] at hr
 rcases hr with rfl | rfl
 ·exact ha
 ·exact hb
theorem one_plain {a : RV} (ha : PlainR a) : ∀ r ∈ [a], PlainR r := fun r hr => by rw [List.mem_singleton.1 hr]; exact ha
theorem three_plain {a b c : RV} (ha : PlainR a) (hb : PlainR b) (hc : PlainR c) : ∀ r ∈ [a, b, c], PlainR r := fun r hr => by
 simp only [List.mem_cons, List.not_mem_nil, or_false] at hr
 rcases hr with rfl | rfl | rfl
 ·exact ha
 ·exact hb
 ·exact hc
theorem c_one : cleanL (rcsC [rA]) [rA] = [rA] := by kernel_rfl
theorem c_two : cleanL (rcsC [rA, forgetR 1]) [rA, forgetR 1] = [saidR 1 [], forgetR 1] := by kernel_rfl
theorem c_thr : cleanL (rcsC [forgetR 2, rA]) [forgetR 2, rA] = [forgetR 2, rA] := by kernel_rfl
theorem f_two : forgotF (rcsC [rA, forgetR 1, forgetR 0]) = [0, 1] := by kernel_rfl
theorem p_yes : pubB (rcsC [rA, forgetR 1]) (rcsC [saidR 1 benT, forgetR 1]) = true := by kernel_rfl
theorem p_no : pubB (rcsC [rA]) (rcsC [saidR 1 benT]) = false := by kernel_rfl
theorem rs_loads {W : World} {A : Option Addr} {l : List RV} (h : Rs W A l) (h0 : 0 < l.length) : ∃ b off, A = some ⟨b, off, none⟩ ∧ b < W.heap.size ∧ ∀ k (hk : k < l.length) u, OldB W u → u.rangeAt b (off + k * 21) (rvL l[k]) := by
 obtain ⟨b, off, e, hb, hc⟩ := h.rd (by rw [rvsL_len]; omega)
 refine ⟨b, off, e, hb, fun k hk u hu => rangeAt_old hb (fun j v hv => ?_) u hu⟩
 have := hc (k * 21 + j) v (flat_get rvL 21 (fun _ => rfl) hk hv)
 rwa [← Nat.add_assoc] at this
theorem Rs.more {w : World} {o : Obj} {A B : Option Addr} {l m : List RV} (h : Rs w A l) (_ : Rs (w.alloc o) B m) : Rs (w.alloc o) A l := h.below ((Below.refl _ _).alloc (Nat.le_refl _) _)
theorem OldB.go {W a b : World} (h : OldB W a) (k : OldB a b) : OldB W b := h.then k
theorem saidA (u : World) : Calls Tryz.prog 46 #[.int .i64 1, .string ⟨#[65, 110, 110]⟩] u fun e w' => e = .returned (.agg (rvL rA).toArray) ∧ Below u.heap.size u w' := said_any 1 annT u
theorem saidE (u : World) : Calls Tryz.prog 46 #[.int .i64 1, .string ⟨#[]⟩] u fun e w' => e = .returned (.agg (rvL (saidR 1 [])).toArray) ∧ Below u.heap.size u w' := said_any 1 [] u
theorem saidN (u : World) : Calls Tryz.prog 46 #[.int .i64 1, .string ⟨#[66, 101, 110]⟩] u fun e w' => e = .returned (.agg (rvL (saidR 1 benT)).toArray) ∧ Below u.heap.size u w' := said_any 1 benT u
theorem rvL_szL (r : RV) : (Tryz.prog.info? 56).map (·.size) = some (rvL r).length := by kernel_rfl
theorem rvL_szA (r : RV) : (Tryz.prog.info? 56).map (·.size) = some (rvL r).toArray.size := by kernel_rfl
theorem head_any (w : World) (ht : Tab w) : Calls Tryz.prog 15 #[] w fun e w' => e = .returned (.bool true) ∧ Below w.heap.size w w' := by
 have HT := Lib.hid ht
 have SA1 := Lib.hid saidA
 have SA0 := Lib.hid saidE
 have SAB := Lib.hid saidN
 have FO := Lib.hid (fun i u => forget_any i u)
 have OEX : Hid ((rvL rA).toArray.all (·.oneCell') = true) := Lib.hid (rvL_one rA ⟨w, rA_plain.is w⟩)
 have FX := Lib.hid (fun u z (hz : z.length = 21) => setCells_freshG (P := Tryz.prog) u 56 z (rvL rA) (rvL_szA rA) (hz.trans rfl) OEX.out)
 have ZL := Lib.hid (rvL_szL rA)
 have NX : Hid ((rvL rA).toArray.size ≤ 21) := Lib.hid (Nat.le_refl 21)
 have ZA := Lib.hid (rvL_szA rA)
 clear ht
 go_enter Tryz.func15, Tryz.ntmps15
 go_wp2_with fail
 (with_reducible refine (SA1.out w).mono ?_)
 rintro e u1 ⟨rfl, b1⟩
 obtain ⟨X, hX⟩ : ∃ X, X = u1.alloc (.cells (rvL rA).toArray 56) := ⟨_, rfl⟩
 obtain ⟨bx, hbx⟩ : ∃ bx, u1.heap.size = bx := ⟨_, rfl⟩
 have XX : X.heap[bx]? = some (.cells (rvL rA).toArray 56 (0, 0)) := by rw [hX, ← hbx]; exact heap_alloc_new u1 _
 have XL := lt_of_block XX
 have BX : Hid (Below w.heap.size w X) := Lib.hid (by rw [hX]; exact b1.alloc b1.size _)
 have BA : Hid (∀ u, OldB X u → Below w.heap.size w u) := Lib.hid (fun u hu => BX.out.trans (Below.mono hu BX.out.size))
 have TT : Hid (∀ u, OldB X u → Tab u) := Lib.hid (fun u hu => HT.out.keep (BA.out u hu))
 have RX : Hid (∀ u, OldB X u → u.rangeAt bx 0 (rvL rA)) := Lib.hid (fun u hu => by have := range_of_row ((hu.block bx XL).trans XX); simpa using this)
 have X0 := Lib.hid hX
 have X1 := Lib.hid hbx
 have SW : OldB X X := Below.refl _ _
 have OR := Lib.hid (fun (u : World) (hu : OldB X u) => newRs hu [rA] (one_plain rA_plain) (by decide))
 clear hX hbx XX XL b1
 go_wp2_with (first
  | (refine wpList_store_mid rfl 56 (.tmp 1) (.tmp 7) rfl u1.heap.size 0 (rvL rA).toArray rfl rfl (there_of_row (heap_alloc_new u1 _) NX.out) ZA.out OEX.out ?_; rw [List.toList_toArray, FX.out u1 _ rfl, ← X0.out, X1.out])
  | (refine wpList_load_mid rfl 56 (.tmp 1) rfl bx 0 rfl (rvL rA) _ (RX.out _ SW) Tryz.underlying56 rfl ZL.out ?_)
  | (refine wpList_recs rfl [rA] 1 _ rfl rfl (by decide) (by decide) (by kernel_rfl) ?_))
 have CA := hclean _ 1 1 [rA] _ rfl (OR.out X SW) (TT.out _ (SW.alloc _))
 (with_reducible refine CA.mono ?_)
 rintro e u2 ⟨⟨A2, c2, rfl, M2, -⟩, b2⟩
 rw [c_one] at M2
 have O2 : OldB X u2 := (SW.alloc _).then b2
 have M2 := Lib.hid M2
 clear CA b2 SW X0 X1 FX

 go_wp2_with fail
 (refine wp_region_noPanic ?_; refine wp_region_held_drew (S := (OldB u2)) (by kernel_rfl) ?_ (fun hHeld => ?_); exact Below.drew (Below.refl _ _))
 (refine ldW 0 56 (.tmp 1) bx 0 (rvL rA) _ (fun v hv => RX.out v (O2.then hv)) Tryz.underlying56 ZL.out ?_; try simp only [gmS])
 refine rdR 1 (fun K hK => ?_)
 go_simp
 (with_reducible refine (FO.out 1 _).mono ?_)
 rintro e u3 ⟨rfl, du3⟩
 (refine hK.out _ _ (OldB.go hHeld du3) (fun hHeld2 => ?_); clear hK K hHeld; have hHeld := hHeld2; clear hHeld2; try simp only [gmS])
 refine rdR 2 (fun K hK => ?_)
 refine wp_recs [rA, forgetR 1] 2 _ rfl rfl (by decide) (by decide) (by kernel_rfl) ?_
 have N3 := Lib.hid (newRs hHeld [rA, forgetR 1] (two_plain rA_plain (forgetP 1)) (by decide))
 (refine hK.out _ _ (OldB.alloc hHeld _) (fun hHeld2 => ?_); clear hK K hHeld; have hHeld := hHeld2; clear hHeld2; try simp only [gmS])
 refine rdR 3 (fun K hK => ?_)
 go_simp
 (with_reducible refine (hclean _ 2 2 _ _ rfl N3.out (TT.out _ (O2.go hHeld))).mono ?_)
 rintro e u4 ⟨⟨A3, c3, rfl, M3, -⟩, du4⟩
 (refine hK.out _ _ (OldB.go hHeld du4) (fun hHeld2 => ?_); clear hK K hHeld; have hHeld := hHeld2; clear hHeld2; try simp only [gmS])
 rw [c_two] at M3
 have M3 := Lib.hid M3
 (refine tkW 4 ?_; try simp only [gmS])
 have O4 : OldB X u4 := O2.go hHeld
 have M2 := Lib.hid (M2.out.old hHeld)
 (refine wpAnyH_done (by kernel_rfl) ?_ _; refine NoPanic.normal ?_)
 clear hHeld N3 O2 du3 du4
 go_wp2_with fail
 (refine wp_region_noPanic ?_; refine wp_region_held_drew (S := (OldB u4)) (by kernel_rfl) ?_ (fun hHeld => ?_); exact Below.drew (Below.refl _ _))
 (refine ldW 1 56 (.tmp 1) bx 0 (rvL rA) _ (fun v hv => RX.out v (O4.then hv)) Tryz.underlying56 ZL.out ?_; try simp only [gmS])
 refine rdR 0 (fun K hK => ?_)
 go_simp
 (with_reducible refine (FO.out 2 _).mono ?_)
 rintro e u5 ⟨rfl, du5⟩
 (refine hK.out _ _ (OldB.go hHeld du5) (fun hHeld2 => ?_); clear hK K hHeld; have hHeld := hHeld2; clear hHeld2; try simp only [gmS])
 refine rdR 2 (fun K hK => ?_)
 refine wp_recs [forgetR 2, rA] 2 _ rfl rfl (by decide) (by decide) (by kernel_rfl) ?_
 have N4 := Lib.hid (newRs hHeld [forgetR 2, rA] (two_plain (forgetP 2) rA_plain) (by decide))
 (refine hK.out _ _ (OldB.alloc hHeld _) (fun hHeld2 => ?_); clear hK K hHeld; have hHeld := hHeld2; clear hHeld2; try simp only [gmS])
 refine rdR 3 (fun K hK => ?_)
 go_simp
 (with_reducible refine (hclean _ 2 2 _ _ rfl N4.out (TT.out _ (O4.go hHeld))).mono ?_)
 rintro e u6 ⟨⟨A4, c4, rfl, M4, -⟩, du6⟩
 (refine hK.out _ _ (OldB.go hHeld du6) (fun hHeld2 => ?_); clear hK K hHeld; have hHeld := hHeld2; clear hHeld2; try simp only [gmS])
 rw [c_thr] at M4
 have M4 := Lib.hid M4
 (refine tkW 4 ?_; try simp only [gmS])
 have O6 : OldB X u6 := O4.go hHeld
 have M2 := Lib.hid (M2.out.old hHeld)
 have M3 := Lib.hid (M3.out.old hHeld)
 (refine wpAnyH_done (by kernel_rfl) ?_ _; refine NoPanic.normal ?_)
 clear hHeld N4 O4 du5 du6
 go_wp2_with fail
 (refine wp_region_noPanic ?_; refine wp_region_held_drew (S := (OldB u6)) (by kernel_rfl) ?_ (fun hHeld => ?_); exact Below.drew (Below.refl _ _))
 (refine ldW 0 56 (.tmp 1) bx 0 (rvL rA) _ (fun v hv => RX.out v (O6.then hv)) Tryz.underlying56 ZL.out ?_; try simp only [gmS])
 refine rdR 1 (fun K hK => ?_)
 go_simp
 (with_reducible refine (FO.out 1 _).mono ?_)
 rintro e u7 ⟨rfl, du7⟩
 (refine hK.out _ _ (OldB.go hHeld du7) (fun hHeld2 => ?_); clear hK K hHeld; have hHeld := hHeld2; clear hHeld2; try simp only [gmS])
 refine rdR 2 (fun K hK => ?_)
 go_simp
 (with_reducible refine (FO.out 0 _).mono ?_)
 rintro e u8 ⟨rfl, du8⟩
 (refine hK.out _ _ (OldB.go hHeld du8) (fun hHeld2 => ?_); clear hK K hHeld; have hHeld := hHeld2; clear hHeld2; try simp only [gmS])
 refine rdR 3 (fun K hK => ?_)
 refine wp_recs [rA, forgetR 1, forgetR 0] 3 _ rfl rfl (by decide) (by decide) (by kernel_rfl) ?_
 have N5 := Lib.hid (newRs hHeld [rA, forgetR 1, forgetR 0] (three_plain rA_plain (forgetP 1) (forgetP 0)) (by decide))
 (refine hK.out _ _ (OldB.alloc hHeld _) (fun hHeld2 => ?_); clear hK K hHeld; have hHeld := hHeld2; clear hHeld2; try simp only [gmS])
 refine rdR 4 (fun K hK => ?_)
 go_simp
 (with_reducible refine (hforgot _ 3 3 _ _ rfl N5.out (TT.out _ (O6.go hHeld))).mono ?_)
 rintro e u9 ⟨⟨A5, c5, he, M5⟩, du9⟩
 rw [f_two] at he M5
 simp only [List.length_cons, List.length_nil, Nat.zero_add, Nat.reduceAdd] at he
 subst he
 have M5 := Lib.hid M5
 (refine hK.out _ _ (OldB.go hHeld du9) (fun hHeld2 => ?_); clear hK K hHeld; have hHeld := hHeld2; clear hHeld2; try simp only [gmS])
 (refine tkW 5 ?_; try simp only [gmS])
 have O9 : OldB X u9 := O6.go hHeld
 have M2 := Lib.hid (M2.out.old hHeld)
 have M3 := Lib.hid (M3.out.old hHeld)
 have M4 := Lib.hid (M4.out.old hHeld)
 (refine wpAnyH_done (by kernel_rfl) ?_ _; refine NoPanic.normal ?_)
 clear hHeld N5 O6 du7 du8 du9
 obtain ⟨g2, o2, rfl, -, lM2⟩ := rs_loads M2.out (by decide)
 have M2r0 := Lib.hid (lM2 0 (by decide))
 clear lM2
 obtain ⟨g3, o3, rfl, -, lM3⟩ := rs_loads M3.out (by decide)
 have M3r0 := Lib.hid (lM3 0 (by decide))
 have M3r1 := Lib.hid (lM3 1 (by decide))
 clear lM3
 obtain ⟨g4, o4, rfl, -, lM4⟩ := rs_loads M4.out (by decide)
 have M4r1 := Lib.hid (lM4 1 (by decide))
 clear lM4
 obtain ⟨g5, o5, rfl, hg5, i0⟩ := ints_at M5.out (k := 0) (by decide)
 obtain ⟨g5', o5', e5, -, i1⟩ := ints_at M5.out (k := 1) (by decide)
 obtain ⟨rfl, rfl⟩ : g5 = g5' ∧ o5 = o5' := by injection e5 with e5; injection e5 with e1 e2; exact ⟨e1, e2⟩
 have j0 : ∀ u, OldB u9 u → u.cell? ⟨g5, o5, none⟩ = some (.int .i64 0) := fun u hu => (World.cell?_of_block (w := u9) (hu.block _ hg5)).trans i0
 have j1 : ∀ u, OldB u9 u → u.cell? ⟨g5, o5 + 1, none⟩ = some (.int .i64 1) := fun u hu => (World.cell?_of_block (w := u9) (hu.block _ hg5)).trans i1
 have HS := Lib.hid (fun r h u => hsame r h u)
 clear i0 i1 e5 M2 M3 M4 M5
 go_wp2_with fail
 (refine wp_region_noPanic ?_; refine wp_region_held_drew (S := (OldB u9)) (by kernel_rfl) ?_ (fun hHeld => ?_); exact Below.drew (Below.refl _ _))
 (refine tkW 0 ?_; try simp only [gmS])
 (refine tkW 1 ?_; try simp only [gmS])
 (refine ldW 2 56 (.tmp 43) g2 (o2 + 0 * 21) (rvL (rA)) _ M2r0.out Tryz.underlying56 (rvL_szL _) ?_; try simp only [gmS])
 (refine ldW 3 56 (.tmp 1) bx 0 (rvL rA) _ (fun v hv => RX.out v (O9.then hv)) Tryz.underlying56 ZL.out ?_; try simp only [gmS])
 refine rdR 4 (fun K hK => ?_)
 go_simp
 (with_reducible refine (HS.out rA rA_plain _).mono ?_)
 rintro e v1 ⟨rfl, dv1⟩
 (refine hK.out _ _ (OldB.go hHeld dv1) (fun hHeld2 => ?_); clear hK K hHeld; have hHeld := hHeld2; clear hHeld2; try simp only [gmS])
 (refine tkW 5 ?_; try simp only [gmS])
 (refine tkW 6 ?_; try simp only [gmS])
 (refine tkW 7 ?_; try simp only [gmS])
 (refine ldW 8 56 (.tmp 49) g3 (o3 + 0 * 21) (rvL (saidR 1 [])) _ M3r0.out Tryz.underlying56 (rvL_szL _) ?_; try simp only [gmS])
 refine rdR 9 (fun K hK => ?_)
 go_simp
 (with_reducible refine (SA0.out _).mono ?_)
 rintro e v2 ⟨rfl, dv2⟩
 (refine hK.out _ _ (OldB.go hHeld dv2) (fun hHeld2 => ?_); clear hK K hHeld; have hHeld := hHeld2; clear hHeld2; try simp only [gmS])
 refine rdR 10 (fun K hK => ?_)
 go_simp
 (with_reducible refine (HS.out _ rB_plain _).mono ?_)
 rintro e v3 ⟨rfl, dv3⟩
 (refine hK.out _ _ (OldB.go hHeld dv3) (fun hHeld2 => ?_); clear hK K hHeld; have hHeld := hHeld2; clear hHeld2; try simp only [gmS])
 (refine tkW 11 ?_; try simp only [gmS])
 (refine tkW 12 ?_; try simp only [gmS])
 (refine tkW 13 ?_; try simp only [gmS])
 (refine tkW 14 ?_; try simp only [gmS])
 (refine ldW 15 56 (.tmp 56) g3 (o3 + 1 * 21) (rvL (forgetR 1)) _ M3r1.out Tryz.underlying56 (rvL_szL _) ?_; try simp only [gmS])
 refine rdR 16 (fun K hK => ?_)
 go_simp
 (with_reducible refine (FO.out 1 _).mono ?_)
 rintro e v4 ⟨rfl, dv4⟩
 (refine hK.out _ _ (OldB.go hHeld dv4) (fun hHeld2 => ?_); clear hK K hHeld; have hHeld := hHeld2; clear hHeld2; try simp only [gmS])
 refine rdR 17 (fun K hK => ?_)
 go_simp
 (with_reducible refine (HS.out _ (forgetP 1) _).mono ?_)
 rintro e v5 ⟨rfl, dv5⟩
 (refine hK.out _ _ (OldB.go hHeld dv5) (fun hHeld2 => ?_); clear hK K hHeld; have hHeld := hHeld2; clear hHeld2; try simp only [gmS])
 (refine tkW 18 ?_; try simp only [gmS])
 (refine tkW 19 ?_; try simp only [gmS])
 (refine tkW 20 ?_; try simp only [gmS])
 (refine tkW 21 ?_; try simp only [gmS])
 (refine ldW 22 56 (.tmp 63) g4 (o4 + 1 * 21) (rvL (rA)) _ M4r1.out Tryz.underlying56 (rvL_szL _) ?_; try simp only [gmS])
 (refine ldW 23 56 (.tmp 1) bx 0 (rvL rA) _ (fun v hv => RX.out v (O9.then hv)) Tryz.underlying56 ZL.out ?_; try simp only [gmS])
 refine rdR 24 (fun K hK => ?_)
 go_simp
 (with_reducible refine (HS.out _ rA_plain _).mono ?_)
 rintro e v6 ⟨rfl, dv6⟩
 (refine hK.out _ _ (OldB.go hHeld dv6) (fun hHeld2 => ?_); clear hK K hHeld; have hHeld := hHeld2; clear hHeld2; try simp only [gmS])
 (refine tkW 25 ?_; try simp only [gmS])
 (refine tkW 26 ?_; try simp only [gmS])
 (refine tkW 27 ?_; try simp only [gmS])
 (refine tkW 28 ?_; try simp only [gmS])
 (refine tkW 29 ?_; try simp only [gmS])
 (refine tkW 30 ?_; try simp only [gmS])
 (refine tkW 31 ?_; try simp only [gmS])
 (refine tkW 32 ?_; try simp only [gmS])
 (refine tkW 33 ?_; try simp only [gmS])
 (refine tkW 34 ?_; try simp only [gmS])
 (refine tkW 35 ?_; try simp only [gmS])
 (refine tkW 36 ?_; try simp only [gmS])
 (refine tkW 37 ?_; try simp only [gmS])
 (refine tkW 38 ?_; try simp only [gmS])
 have OV : OldB X v6 := O9.go hHeld
 (refine wpAnyH_done (by kernel_rfl) ?_ _; refine NoPanic.normal ?_)
 clear hHeld O9 j0 j1 M2r0 M3r0 M3r1 M4r1 dv1 dv2 dv3 dv4 dv5 dv6 HS
 have PY := Lib.hid p_yes
 have PN := Lib.hid p_no
 go_wp2_with fail
 (refine wp_region_noPanic ?_; refine wp_region_held_drew (S := (OldB v6)) (by kernel_rfl) ?_ (fun hHeld => ?_); exact Below.drew (Below.refl _ _))
 (refine tkW 0 ?_; try simp only [gmS])
 (refine tkW 1 ?_; try simp only [gmS])
 (refine ldW 2 56 (.tmp 1) bx 0 (rvL rA) _ (fun v hv => RX.out v (OV.then hv)) Tryz.underlying56 ZL.out ?_; try simp only [gmS])
 refine rdR 3 (fun K hK => ?_)
 go_simp
 (with_reducible refine (FO.out 1 _).mono ?_)
 rintro e y3 ⟨rfl, dy3⟩
 (refine hK.out _ _ (OldB.go hHeld dy3) (fun hHeld2 => ?_); clear hK K hHeld; have hHeld := hHeld2; clear hHeld2; try simp only [gmS])
 (refine wpAnyH_ready (rs := [4, 5]) (by kernel_rfl) (by simp) ?_; refine AllReadyH.cons (o := _) rfl (fun K hK => ?_) (AllReadyH.cons (o := _) rfl (fun K hK => ?_) AllReadyH.nil))
 ·refine Eq.mpr (if_pos (by first | rfl | (simp [Region.wanted, yielded]; done))) ?_
  refine wp_recs [rA, forgetR 1] 2 _ rfl rfl (by decide) (by decide) (by kernel_rfl) ?_
  have N4 := Lib.hid (newRs hHeld [rA, forgetR 1] (two_plain rA_plain (forgetP 1)) (by decide))
  (refine hK.out _ _ (OldB.alloc hHeld _) (fun hHeld2 => ?_); clear hK K hHeld; have hHeld := hHeld2; clear hHeld2; try simp only [gmS])
  refine rdR 5 (fun K hK => ?_)
  go_simp
  (with_reducible refine (SAB.out _).mono ?_)
  rintro e y5 ⟨rfl, dy5⟩
  have N4 := Lib.hid (N4.out.below dy5)
  (refine hK.out _ _ (OldB.go hHeld dy5) (fun hHeld2 => ?_); clear hK K hHeld; have hHeld := hHeld2; clear hHeld2; try simp only [gmS])
  refine rdR 6 (fun K hK => ?_)
  go_simp
  (with_reducible refine (FO.out 1 _).mono ?_)
  rintro e y6 ⟨rfl, dy6⟩
  have N4 := Lib.hid (N4.out.below dy6)
  (refine hK.out _ _ (OldB.go hHeld dy6) (fun hHeld2 => ?_); clear hK K hHeld; have hHeld := hHeld2; clear hHeld2; try simp only [gmS])
  refine rdR 7 (fun K hK => ?_)
  refine wp_recs [saidR 1 benT, forgetR 1] 2 _ rfl rfl (by decide) (by decide) (by kernel_rfl) ?_
  have N7 := Lib.hid (newRs hHeld [saidR 1 benT, forgetR 1] (two_plain rN_plain (forgetP 1)) (by decide))
  have N4 := Lib.hid (N4.out.more N7.out)
  (refine hK.out _ _ (OldB.alloc hHeld _) (fun hHeld2 => ?_); clear hK K hHeld; have hHeld := hHeld2; clear hHeld2; try simp only [gmS])
  try simp only [World.size_alloc] at N4
  try simp only [World.size_alloc] at N7
  refine rdR 8 (fun K hK => ?_)
  go_simp
  (with_reducible refine (ppublic_any _ _ 2 2 _ _ 2 2 _ rfl rfl N4.out N7.out (TT.out _ (OV.go hHeld))).mono ?_)
  rw [PY.out]
  rintro e y8 ⟨rfl, dy8⟩
  (refine hK.out _ _ (OldB.go hHeld dy8) (fun hHeld2 => ?_); clear hK K hHeld; have hHeld := hHeld2; clear hHeld2; try simp only [gmS])
  (refine tkW 9 ?_; try simp only [gmS])
  (refine tkW 10 ?_; try simp only [gmS])
  (refine ldW 11 56 (.tmp 1) bx 0 (rvL rA) _ (fun v hv => RX.out v (OV.then hv)) Tryz.underlying56 ZL.out ?_; try simp only [gmS])
  (refine wpAnyH_ready (rs := [12, 13]) (by kernel_rfl) (by simp) ?_; refine AllReadyH.cons (o := _) rfl (fun K hK => ?_) (AllReadyH.cons (o := _) rfl (fun K hK => ?_) AllReadyH.nil))
  ·refine Eq.mpr (if_pos (by first | rfl | (simp [Region.wanted, yielded]; done))) ?_
   refine wp_recs [rA] 1 _ rfl rfl (by decide) (by decide) (by kernel_rfl) ?_
   have N12 := Lib.hid (newRs hHeld [rA] (one_plain rA_plain) (by decide))
   (refine hK.out _ _ (OldB.alloc hHeld _) (fun hHeld2 => ?_); clear hK K hHeld; have hHeld := hHeld2; clear hHeld2; try simp only [gmS])
   refine rdR 13 (fun K hK => ?_)
   go_simp
   (with_reducible refine (SAB.out _).mono ?_)
   rintro e y13 ⟨rfl, dy13⟩
   have N12 := Lib.hid (N12.out.below dy13)
   (refine hK.out _ _ (OldB.go hHeld dy13) (fun hHeld2 => ?_); clear hK K hHeld; have hHeld := hHeld2; clear hHeld2; try simp only [gmS])
   refine rdR 14 (fun K hK => ?_)
   refine wp_recs [saidR 1 benT] 1 _ rfl rfl (by decide) (by decide) (by kernel_rfl) ?_
   have N14 := Lib.hid (newRs hHeld [saidR 1 benT] (one_plain rN_plain) (by decide))
   have N12 := Lib.hid (N12.out.more N14.out)
   (refine hK.out _ _ (OldB.alloc hHeld _) (fun hHeld2 => ?_); clear hK K hHeld; have hHeld := hHeld2; clear hHeld2; try simp only [gmS])
   try simp only [World.size_alloc] at N12
   try simp only [World.size_alloc] at N14
   refine rdR 15 (fun K hK => ?_)
   go_simp
   (with_reducible refine (ppublic_any _ _ 1 1 _ _ 1 1 _ rfl rfl N12.out N14.out (TT.out _ (OV.go hHeld))).mono ?_)
   rw [PN.out]
   rintro e y15 ⟨rfl, dy15⟩
   (refine hK.out _ _ (OldB.go hHeld dy15) (fun hHeld2 => ?_); clear hK K hHeld; have hHeld := hHeld2; clear hHeld2; try simp only [gmS])
   (refine tkW 16 ?_; try simp only [gmS])
   (refine tkW 17 ?_; try simp only [gmS])
   (refine tkW 18 ?_; try simp only [gmS])
   have OW := Lib.hid (OV.go hHeld)
   (refine wpAnyH_done (by kernel_rfl) ?_ _; refine NoPanic.normal ?_)
   go_wp2_with fail
   go_ret
   exact ⟨rfl, BA.out _ OW.out⟩
  ·refine Eq.mpr (if_pos (by first | rfl | (simp [Region.wanted, yielded]; done))) ?_
   go_simp
   (with_reducible refine (SAB.out _).mono ?_)
   rintro e y13 ⟨rfl, dy13⟩
   (refine hK.out _ _ (OldB.go hHeld dy13) (fun hHeld2 => ?_); clear hK K hHeld; have hHeld := hHeld2; clear hHeld2; try simp only [gmS])
   (refine wpAnyH_ready (rs := [12, 14]) (by kernel_rfl) (by simp) ?_; refine AllReadyH.cons (o := _) rfl (fun K hK => ?_) (AllReadyH.cons (o := _) rfl (fun K hK => ?_) AllReadyH.nil))
   ·refine Eq.mpr (if_pos (by first | rfl | (simp [Region.wanted, yielded]; done))) ?_
    refine wp_recs [rA] 1 _ rfl rfl (by decide) (by decide) (by kernel_rfl) ?_
    have N12 := Lib.hid (newRs hHeld [rA] (one_plain rA_plain) (by decide))
    (refine hK.out _ _ (OldB.alloc hHeld _) (fun hHeld2 => ?_); clear hK K hHeld; have hHeld := hHeld2; clear hHeld2; try simp only [gmS])
    refine rdR 14 (fun K hK => ?_)
    refine wp_recs [saidR 1 benT] 1 _ rfl rfl (by decide) (by decide) (by kernel_rfl) ?_
    have N14 := Lib.hid (newRs hHeld [saidR 1 benT] (one_plain rN_plain) (by decide))
    have N12 := Lib.hid (N12.out.more N14.out)
    (refine hK.out _ _ (OldB.alloc hHeld _) (fun hHeld2 => ?_); clear hK K hHeld; have hHeld := hHeld2; clear hHeld2; try simp only [gmS])
    try simp only [World.size_alloc] at N12
    try simp only [World.size_alloc] at N14
    refine rdR 15 (fun K hK => ?_)
    go_simp
    (with_reducible refine (ppublic_any _ _ 1 1 _ _ 1 1 _ rfl rfl N12.out N14.out (TT.out _ (OV.go hHeld))).mono ?_)
    rw [PN.out]
    rintro e y15 ⟨rfl, dy15⟩
    (refine hK.out _ _ (OldB.go hHeld dy15) (fun hHeld2 => ?_); clear hK K hHeld; have hHeld := hHeld2; clear hHeld2; try simp only [gmS])
    (refine tkW 16 ?_; try simp only [gmS])
    (refine tkW 17 ?_; try simp only [gmS])
    (refine tkW 18 ?_; try simp only [gmS])
    have OW := Lib.hid (OV.go hHeld)
    (refine wpAnyH_done (by kernel_rfl) ?_ _; refine NoPanic.normal ?_)
    go_wp2_with fail
    go_ret
    exact ⟨rfl, BA.out _ OW.out⟩
   ·refine Eq.mpr (if_pos (by first | rfl | (simp [Region.wanted, yielded]; done))) ?_
    refine wp_recs [saidR 1 benT] 1 _ rfl rfl (by decide) (by decide) (by kernel_rfl) ?_
    have N14 := Lib.hid (newRs hHeld [saidR 1 benT] (one_plain rN_plain) (by decide))
    (refine hK.out _ _ (OldB.alloc hHeld _) (fun hHeld2 => ?_); clear hK K hHeld; have hHeld := hHeld2; clear hHeld2; try simp only [gmS])
    refine rdR 12 (fun K hK => ?_)
    refine wp_recs [rA] 1 _ rfl rfl (by decide) (by decide) (by kernel_rfl) ?_
    have N12 := Lib.hid (newRs hHeld [rA] (one_plain rA_plain) (by decide))
    have N14 := Lib.hid (N14.out.more N12.out)
    (refine hK.out _ _ (OldB.alloc hHeld _) (fun hHeld2 => ?_); clear hK K hHeld; have hHeld := hHeld2; clear hHeld2; try simp only [gmS])
    try simp only [World.size_alloc] at N12
    try simp only [World.size_alloc] at N14
    refine rdR 15 (fun K hK => ?_)
    go_simp
    (with_reducible refine (ppublic_any _ _ 1 1 _ _ 1 1 _ rfl rfl N12.out N14.out (TT.out _ (OV.go hHeld))).mono ?_)
    rw [PN.out]
    rintro e y15 ⟨rfl, dy15⟩
    (refine hK.out _ _ (OldB.go hHeld dy15) (fun hHeld2 => ?_); clear hK K hHeld; have hHeld := hHeld2; clear hHeld2; try simp only [gmS])
    (refine tkW 16 ?_; try simp only [gmS])
    (refine tkW 17 ?_; try simp only [gmS])
    (refine tkW 18 ?_; try simp only [gmS])
    have OW := Lib.hid (OV.go hHeld)
    (refine wpAnyH_done (by kernel_rfl) ?_ _; refine NoPanic.normal ?_)
    go_wp2_with fail
    go_ret
    exact ⟨rfl, BA.out _ OW.out⟩
 ·refine Eq.mpr (if_pos (by first | rfl | (simp [Region.wanted, yielded]; done))) ?_
  go_simp
  (with_reducible refine (SAB.out _).mono ?_)
  rintro e y5 ⟨rfl, dy5⟩
  (refine hK.out _ _ (OldB.go hHeld dy5) (fun hHeld2 => ?_); clear hK K hHeld; have hHeld := hHeld2; clear hHeld2; try simp only [gmS])
  (refine wpAnyH_ready (rs := [4, 6]) (by kernel_rfl) (by simp) ?_; refine AllReadyH.cons (o := _) rfl (fun K hK => ?_) (AllReadyH.cons (o := _) rfl (fun K hK => ?_) AllReadyH.nil))
  ·refine Eq.mpr (if_pos (by first | rfl | (simp [Region.wanted, yielded]; done))) ?_
   refine wp_recs [rA, forgetR 1] 2 _ rfl rfl (by decide) (by decide) (by kernel_rfl) ?_
   have N4 := Lib.hid (newRs hHeld [rA, forgetR 1] (two_plain rA_plain (forgetP 1)) (by decide))
   (refine hK.out _ _ (OldB.alloc hHeld _) (fun hHeld2 => ?_); clear hK K hHeld; have hHeld := hHeld2; clear hHeld2; try simp only [gmS])
   refine rdR 6 (fun K hK => ?_)
   go_simp
   (with_reducible refine (FO.out 1 _).mono ?_)
   rintro e y6 ⟨rfl, dy6⟩
   have N4 := Lib.hid (N4.out.below dy6)
   (refine hK.out _ _ (OldB.go hHeld dy6) (fun hHeld2 => ?_); clear hK K hHeld; have hHeld := hHeld2; clear hHeld2; try simp only [gmS])
   refine rdR 7 (fun K hK => ?_)
   refine wp_recs [saidR 1 benT, forgetR 1] 2 _ rfl rfl (by decide) (by decide) (by kernel_rfl) ?_
   have N7 := Lib.hid (newRs hHeld [saidR 1 benT, forgetR 1] (two_plain rN_plain (forgetP 1)) (by decide))
   have N4 := Lib.hid (N4.out.more N7.out)
   (refine hK.out _ _ (OldB.alloc hHeld _) (fun hHeld2 => ?_); clear hK K hHeld; have hHeld := hHeld2; clear hHeld2; try simp only [gmS])
   try simp only [World.size_alloc] at N4
   try simp only [World.size_alloc] at N7
   refine rdR 8 (fun K hK => ?_)
   go_simp
   (with_reducible refine (ppublic_any _ _ 2 2 _ _ 2 2 _ rfl rfl N4.out N7.out (TT.out _ (OV.go hHeld))).mono ?_)
   rw [PY.out]
   rintro e y8 ⟨rfl, dy8⟩
   (refine hK.out _ _ (OldB.go hHeld dy8) (fun hHeld2 => ?_); clear hK K hHeld; have hHeld := hHeld2; clear hHeld2; try simp only [gmS])
   (refine tkW 9 ?_; try simp only [gmS])
   (refine tkW 10 ?_; try simp only [gmS])
   (refine ldW 11 56 (.tmp 1) bx 0 (rvL rA) _ (fun v hv => RX.out v (OV.then hv)) Tryz.underlying56 ZL.out ?_; try simp only [gmS])
   (refine wpAnyH_ready (rs := [12, 13]) (by kernel_rfl) (by simp) ?_; refine AllReadyH.cons (o := _) rfl (fun K hK => ?_) (AllReadyH.cons (o := _) rfl (fun K hK => ?_) AllReadyH.nil))
   ·refine Eq.mpr (if_pos (by first | rfl | (simp [Region.wanted, yielded]; done))) ?_
    refine wp_recs [rA] 1 _ rfl rfl (by decide) (by decide) (by kernel_rfl) ?_
    have N12 := Lib.hid (newRs hHeld [rA] (one_plain rA_plain) (by decide))
    (refine hK.out _ _ (OldB.alloc hHeld _) (fun hHeld2 => ?_); clear hK K hHeld; have hHeld := hHeld2; clear hHeld2; try simp only [gmS])
    refine rdR 13 (fun K hK => ?_)
    go_simp
    (with_reducible refine (SAB.out _).mono ?_)
    rintro e y13 ⟨rfl, dy13⟩
    have N12 := Lib.hid (N12.out.below dy13)
    (refine hK.out _ _ (OldB.go hHeld dy13) (fun hHeld2 => ?_); clear hK K hHeld; have hHeld := hHeld2; clear hHeld2; try simp only [gmS])
    refine rdR 14 (fun K hK => ?_)
    refine wp_recs [saidR 1 benT] 1 _ rfl rfl (by decide) (by decide) (by kernel_rfl) ?_
    have N14 := Lib.hid (newRs hHeld [saidR 1 benT] (one_plain rN_plain) (by decide))
    have N12 := Lib.hid (N12.out.more N14.out)
    (refine hK.out _ _ (OldB.alloc hHeld _) (fun hHeld2 => ?_); clear hK K hHeld; have hHeld := hHeld2; clear hHeld2; try simp only [gmS])
    try simp only [World.size_alloc] at N12
    try simp only [World.size_alloc] at N14
    refine rdR 15 (fun K hK => ?_)
    go_simp
    (with_reducible refine (ppublic_any _ _ 1 1 _ _ 1 1 _ rfl rfl N12.out N14.out (TT.out _ (OV.go hHeld))).mono ?_)
    rw [PN.out]
    rintro e y15 ⟨rfl, dy15⟩
    (refine hK.out _ _ (OldB.go hHeld dy15) (fun hHeld2 => ?_); clear hK K hHeld; have hHeld := hHeld2; clear hHeld2; try simp only [gmS])
    (refine tkW 16 ?_; try simp only [gmS])
    (refine tkW 17 ?_; try simp only [gmS])
    (refine tkW 18 ?_; try simp only [gmS])
    have OW := Lib.hid (OV.go hHeld)
    (refine wpAnyH_done (by kernel_rfl) ?_ _; refine NoPanic.normal ?_)
    go_wp2_with fail
    go_ret
    exact ⟨rfl, BA.out _ OW.out⟩
   ·refine Eq.mpr (if_pos (by first | rfl | (simp [Region.wanted, yielded]; done))) ?_
    go_simp
    (with_reducible refine (SAB.out _).mono ?_)
    rintro e y13 ⟨rfl, dy13⟩
    (refine hK.out _ _ (OldB.go hHeld dy13) (fun hHeld2 => ?_); clear hK K hHeld; have hHeld := hHeld2; clear hHeld2; try simp only [gmS])
    (refine wpAnyH_ready (rs := [12, 14]) (by kernel_rfl) (by simp) ?_; refine AllReadyH.cons (o := _) rfl (fun K hK => ?_) (AllReadyH.cons (o := _) rfl (fun K hK => ?_) AllReadyH.nil))
    ·refine Eq.mpr (if_pos (by first | rfl | (simp [Region.wanted, yielded]; done))) ?_
     refine wp_recs [rA] 1 _ rfl rfl (by decide) (by decide) (by kernel_rfl) ?_
     have N12 := Lib.hid (newRs hHeld [rA] (one_plain rA_plain) (by decide))
     (refine hK.out _ _ (OldB.alloc hHeld _) (fun hHeld2 => ?_); clear hK K hHeld; have hHeld := hHeld2; clear hHeld2; try simp only [gmS])
     refine rdR 14 (fun K hK => ?_)
     refine wp_recs [saidR 1 benT] 1 _ rfl rfl (by decide) (by decide) (by kernel_rfl) ?_
     have N14 := Lib.hid (newRs hHeld [saidR 1 benT] (one_plain rN_plain) (by decide))
     have N12 := Lib.hid (N12.out.more N14.out)
     (refine hK.out _ _ (OldB.alloc hHeld _) (fun hHeld2 => ?_); clear hK K hHeld; have hHeld := hHeld2; clear hHeld2; try simp only [gmS])
     try simp only [World.size_alloc] at N12
     try simp only [World.size_alloc] at N14
     refine rdR 15 (fun K hK => ?_)
     go_simp
     (with_reducible refine (ppublic_any _ _ 1 1 _ _ 1 1 _ rfl rfl N12.out N14.out (TT.out _ (OV.go hHeld))).mono ?_)
     rw [PN.out]
     rintro e y15 ⟨rfl, dy15⟩
     (refine hK.out _ _ (OldB.go hHeld dy15) (fun hHeld2 => ?_); clear hK K hHeld; have hHeld := hHeld2; clear hHeld2; try simp only [gmS])
     (refine tkW 16 ?_; try simp only [gmS])
     (refine tkW 17 ?_; try simp only [gmS])
     (refine tkW 18 ?_; try simp only [gmS])
     have OW := Lib.hid (OV.go hHeld)
     (refine wpAnyH_done (by kernel_rfl) ?_ _; refine NoPanic.normal ?_)
     go_wp2_with fail
     go_ret
     exact ⟨rfl, BA.out _ OW.out⟩
    ·refine Eq.mpr (if_pos (by first | rfl | (simp [Region.wanted, yielded]; done))) ?_
     refine wp_recs [saidR 1 benT] 1 _ rfl rfl (by decide) (by decide) (by kernel_rfl) ?_
     have N14 := Lib.hid (newRs hHeld [saidR 1 benT] (one_plain rN_plain) (by decide))
     (refine hK.out _ _ (OldB.alloc hHeld _) (fun hHeld2 => ?_); clear hK K hHeld; have hHeld := hHeld2; clear hHeld2; try simp only [gmS])
     refine rdR 12 (fun K hK => ?_)
     refine wp_recs [rA] 1 _ rfl rfl (by decide) (by decide) (by kernel_rfl) ?_
     have N12 := Lib.hid (newRs hHeld [rA] (one_plain rA_plain) (by decide))
     have N14 := Lib.hid (N14.out.more N12.out)
     (refine hK.out _ _ (OldB.alloc hHeld _) (fun hHeld2 => ?_); clear hK K hHeld; have hHeld := hHeld2; clear hHeld2; try simp only [gmS])
     try simp only [World.size_alloc] at N12
     try simp only [World.size_alloc] at N14
     refine rdR 15 (fun K hK => ?_)
     go_simp
     (with_reducible refine (ppublic_any _ _ 1 1 _ _ 1 1 _ rfl rfl N12.out N14.out (TT.out _ (OV.go hHeld))).mono ?_)
     rw [PN.out]
     rintro e y15 ⟨rfl, dy15⟩
     (refine hK.out _ _ (OldB.go hHeld dy15) (fun hHeld2 => ?_); clear hK K hHeld; have hHeld := hHeld2; clear hHeld2; try simp only [gmS])
     (refine tkW 16 ?_; try simp only [gmS])
     (refine tkW 17 ?_; try simp only [gmS])
     (refine tkW 18 ?_; try simp only [gmS])
     have OW := Lib.hid (OV.go hHeld)
     (refine wpAnyH_done (by kernel_rfl) ?_ _; refine NoPanic.normal ?_)
     go_wp2_with fail
     go_ret
     exact ⟨rfl, BA.out _ OW.out⟩
  ·refine Eq.mpr (if_pos (by first | rfl | (simp [Region.wanted, yielded]; done))) ?_
   go_simp
   (with_reducible refine (FO.out 1 _).mono ?_)
   rintro e y6 ⟨rfl, dy6⟩
   (refine hK.out _ _ (OldB.go hHeld dy6) (fun hHeld2 => ?_); clear hK K hHeld; have hHeld := hHeld2; clear hHeld2; try simp only [gmS])
   (refine wpAnyH_ready (rs := [4, 7]) (by kernel_rfl) (by simp) ?_; refine AllReadyH.cons (o := _) rfl (fun K hK => ?_) (AllReadyH.cons (o := _) rfl (fun K hK => ?_) AllReadyH.nil))
   ·refine Eq.mpr (if_pos (by first | rfl | (simp [Region.wanted, yielded]; done))) ?_
    refine wp_recs [rA, forgetR 1] 2 _ rfl rfl (by decide) (by decide) (by kernel_rfl) ?_
    have N4 := Lib.hid (newRs hHeld [rA, forgetR 1] (two_plain rA_plain (forgetP 1)) (by decide))
    (refine hK.out _ _ (OldB.alloc hHeld _) (fun hHeld2 => ?_); clear hK K hHeld; have hHeld := hHeld2; clear hHeld2; try simp only [gmS])
    refine rdR 7 (fun K hK => ?_)
    refine wp_recs [saidR 1 benT, forgetR 1] 2 _ rfl rfl (by decide) (by decide) (by kernel_rfl) ?_
    have N7 := Lib.hid (newRs hHeld [saidR 1 benT, forgetR 1] (two_plain rN_plain (forgetP 1)) (by decide))
    have N4 := Lib.hid (N4.out.more N7.out)
    (refine hK.out _ _ (OldB.alloc hHeld _) (fun hHeld2 => ?_); clear hK K hHeld; have hHeld := hHeld2; clear hHeld2; try simp only [gmS])
    try simp only [World.size_alloc] at N4
    try simp only [World.size_alloc] at N7
    refine rdR 8 (fun K hK => ?_)
    go_simp
    (with_reducible refine (ppublic_any _ _ 2 2 _ _ 2 2 _ rfl rfl N4.out N7.out (TT.out _ (OV.go hHeld))).mono ?_)
    rw [PY.out]
    rintro e y8 ⟨rfl, dy8⟩
    (refine hK.out _ _ (OldB.go hHeld dy8) (fun hHeld2 => ?_); clear hK K hHeld; have hHeld := hHeld2; clear hHeld2; try simp only [gmS])
    (refine tkW 9 ?_; try simp only [gmS])
    (refine tkW 10 ?_; try simp only [gmS])
    (refine ldW 11 56 (.tmp 1) bx 0 (rvL rA) _ (fun v hv => RX.out v (OV.then hv)) Tryz.underlying56 ZL.out ?_; try simp only [gmS])
    (refine wpAnyH_ready (rs := [12, 13]) (by kernel_rfl) (by simp) ?_; refine AllReadyH.cons (o := _) rfl (fun K hK => ?_) (AllReadyH.cons (o := _) rfl (fun K hK => ?_) AllReadyH.nil))
    ·refine Eq.mpr (if_pos (by first | rfl | (simp [Region.wanted, yielded]; done))) ?_
     refine wp_recs [rA] 1 _ rfl rfl (by decide) (by decide) (by kernel_rfl) ?_
     have N12 := Lib.hid (newRs hHeld [rA] (one_plain rA_plain) (by decide))
     (refine hK.out _ _ (OldB.alloc hHeld _) (fun hHeld2 => ?_); clear hK K hHeld; have hHeld := hHeld2; clear hHeld2; try simp only [gmS])
     refine rdR 13 (fun K hK => ?_)
     go_simp
     (with_reducible refine (SAB.out _).mono ?_)
     rintro e y13 ⟨rfl, dy13⟩
     have N12 := Lib.hid (N12.out.below dy13)
     (refine hK.out _ _ (OldB.go hHeld dy13) (fun hHeld2 => ?_); clear hK K hHeld; have hHeld := hHeld2; clear hHeld2; try simp only [gmS])
     refine rdR 14 (fun K hK => ?_)
     refine wp_recs [saidR 1 benT] 1 _ rfl rfl (by decide) (by decide) (by kernel_rfl) ?_
     have N14 := Lib.hid (newRs hHeld [saidR 1 benT] (one_plain rN_plain) (by decide))
     have N12 := Lib.hid (N12.out.more N14.out)
     (refine hK.out _ _ (OldB.alloc hHeld _) (fun hHeld2 => ?_); clear hK K hHeld; have hHeld := hHeld2; clear hHeld2; try simp only [gmS])
     try simp only [World.size_alloc] at N12
     try simp only [World.size_alloc] at N14
     refine rdR 15 (fun K hK => ?_)
     go_simp
     (with_reducible refine (ppublic_any _ _ 1 1 _ _ 1 1 _ rfl rfl N12.out N14.out (TT.out _ (OV.go hHeld))).mono ?_)
     rw [PN.out]
     rintro e y15 ⟨rfl, dy15⟩
     (refine hK.out _ _ (OldB.go hHeld dy15) (fun hHeld2 => ?_); clear hK K hHeld; have hHeld := hHeld2; clear hHeld2; try simp only [gmS])
     (refine tkW 16 ?_; try simp only [gmS])
     (refine tkW 17 ?_; try simp only [gmS])
     (refine tkW 18 ?_; try simp only [gmS])
     have OW := Lib.hid (OV.go hHeld)
     (refine wpAnyH_done (by kernel_rfl) ?_ _; refine NoPanic.normal ?_)
     go_wp2_with fail
     go_ret
     exact ⟨rfl, BA.out _ OW.out⟩
    ·refine Eq.mpr (if_pos (by first | rfl | (simp [Region.wanted, yielded]; done))) ?_
     go_simp
     (with_reducible refine (SAB.out _).mono ?_)
     rintro e y13 ⟨rfl, dy13⟩
     (refine hK.out _ _ (OldB.go hHeld dy13) (fun hHeld2 => ?_); clear hK K hHeld; have hHeld := hHeld2; clear hHeld2; try simp only [gmS])
     (refine wpAnyH_ready (rs := [12, 14]) (by kernel_rfl) (by simp) ?_; refine AllReadyH.cons (o := _) rfl (fun K hK => ?_) (AllReadyH.cons (o := _) rfl (fun K hK => ?_) AllReadyH.nil))
     ·refine Eq.mpr (if_pos (by first | rfl | (simp [Region.wanted, yielded]; done))) ?_
      refine wp_recs [rA] 1 _ rfl rfl (by decide) (by decide) (by kernel_rfl) ?_
      have N12 := Lib.hid (newRs hHeld [rA] (one_plain rA_plain) (by decide))
      (refine hK.out _ _ (OldB.alloc hHeld _) (fun hHeld2 => ?_); clear hK K hHeld; have hHeld := hHeld2; clear hHeld2; try simp only [gmS])
      refine rdR 14 (fun K hK => ?_)
      refine wp_recs [saidR 1 benT] 1 _ rfl rfl (by decide) (by decide) (by kernel_rfl) ?_
      have N14 := Lib.hid (newRs hHeld [saidR 1 benT] (one_plain rN_plain) (by decide))
      have N12 := Lib.hid (N12.out.more N14.out)
      (refine hK.out _ _ (OldB.alloc hHeld _) (fun hHeld2 => ?_); clear hK K hHeld; have hHeld := hHeld2; clear hHeld2; try simp only [gmS])
      try simp only [World.size_alloc] at N12
      try simp only [World.size_alloc] at N14
      refine rdR 15 (fun K hK => ?_)
      go_simp
      (with_reducible refine (ppublic_any _ _ 1 1 _ _ 1 1 _ rfl rfl N12.out N14.out (TT.out _ (OV.go hHeld))).mono ?_)
      rw [PN.out]
      rintro e y15 ⟨rfl, dy15⟩
      (refine hK.out _ _ (OldB.go hHeld dy15) (fun hHeld2 => ?_); clear hK K hHeld; have hHeld := hHeld2; clear hHeld2; try simp only [gmS])
      (refine tkW 16 ?_; try simp only [gmS])
      (refine tkW 17 ?_; try simp only [gmS])
      (refine tkW 18 ?_; try simp only [gmS])
      have OW := Lib.hid (OV.go hHeld)
      (refine wpAnyH_done (by kernel_rfl) ?_ _; refine NoPanic.normal ?_)
      go_wp2_with fail
      go_ret
      exact ⟨rfl, BA.out _ OW.out⟩
     ·refine Eq.mpr (if_pos (by first | rfl | (simp [Region.wanted, yielded]; done))) ?_
      refine wp_recs [saidR 1 benT] 1 _ rfl rfl (by decide) (by decide) (by kernel_rfl) ?_
      have N14 := Lib.hid (newRs hHeld [saidR 1 benT] (one_plain rN_plain) (by decide))
      (refine hK.out _ _ (OldB.alloc hHeld _) (fun hHeld2 => ?_); clear hK K hHeld; have hHeld := hHeld2; clear hHeld2; try simp only [gmS])
      refine rdR 12 (fun K hK => ?_)
      refine wp_recs [rA] 1 _ rfl rfl (by decide) (by decide) (by kernel_rfl) ?_
      have N12 := Lib.hid (newRs hHeld [rA] (one_plain rA_plain) (by decide))
      have N14 := Lib.hid (N14.out.more N12.out)
      (refine hK.out _ _ (OldB.alloc hHeld _) (fun hHeld2 => ?_); clear hK K hHeld; have hHeld := hHeld2; clear hHeld2; try simp only [gmS])
      try simp only [World.size_alloc] at N12
      try simp only [World.size_alloc] at N14
      refine rdR 15 (fun K hK => ?_)
      go_simp
      (with_reducible refine (ppublic_any _ _ 1 1 _ _ 1 1 _ rfl rfl N12.out N14.out (TT.out _ (OV.go hHeld))).mono ?_)
      rw [PN.out]
      rintro e y15 ⟨rfl, dy15⟩
      (refine hK.out _ _ (OldB.go hHeld dy15) (fun hHeld2 => ?_); clear hK K hHeld; have hHeld := hHeld2; clear hHeld2; try simp only [gmS])
      (refine tkW 16 ?_; try simp only [gmS])
      (refine tkW 17 ?_; try simp only [gmS])
      (refine tkW 18 ?_; try simp only [gmS])
      have OW := Lib.hid (OV.go hHeld)
      (refine wpAnyH_done (by kernel_rfl) ?_ _; refine NoPanic.normal ?_)
      go_wp2_with fail
      go_ret
      exact ⟨rfl, BA.out _ OW.out⟩
   ·refine Eq.mpr (if_pos (by first | rfl | (simp [Region.wanted, yielded]; done))) ?_
    refine wp_recs [saidR 1 benT, forgetR 1] 2 _ rfl rfl (by decide) (by decide) (by kernel_rfl) ?_
    have N7 := Lib.hid (newRs hHeld [saidR 1 benT, forgetR 1] (two_plain rN_plain (forgetP 1)) (by decide))
    (refine hK.out _ _ (OldB.alloc hHeld _) (fun hHeld2 => ?_); clear hK K hHeld; have hHeld := hHeld2; clear hHeld2; try simp only [gmS])
    refine rdR 4 (fun K hK => ?_)
    refine wp_recs [rA, forgetR 1] 2 _ rfl rfl (by decide) (by decide) (by kernel_rfl) ?_
    have N4 := Lib.hid (newRs hHeld [rA, forgetR 1] (two_plain rA_plain (forgetP 1)) (by decide))
    have N7 := Lib.hid (N7.out.more N4.out)
    (refine hK.out _ _ (OldB.alloc hHeld _) (fun hHeld2 => ?_); clear hK K hHeld; have hHeld := hHeld2; clear hHeld2; try simp only [gmS])
    try simp only [World.size_alloc] at N4
    try simp only [World.size_alloc] at N7
    refine rdR 8 (fun K hK => ?_)
    go_simp
    (with_reducible refine (ppublic_any _ _ 2 2 _ _ 2 2 _ rfl rfl N4.out N7.out (TT.out _ (OV.go hHeld))).mono ?_)
    rw [PY.out]
    rintro e y8 ⟨rfl, dy8⟩
    (refine hK.out _ _ (OldB.go hHeld dy8) (fun hHeld2 => ?_); clear hK K hHeld; have hHeld := hHeld2; clear hHeld2; try simp only [gmS])
    (refine tkW 9 ?_; try simp only [gmS])
    (refine tkW 10 ?_; try simp only [gmS])
    (refine ldW 11 56 (.tmp 1) bx 0 (rvL rA) _ (fun v hv => RX.out v (OV.then hv)) Tryz.underlying56 ZL.out ?_; try simp only [gmS])
    (refine wpAnyH_ready (rs := [12, 13]) (by kernel_rfl) (by simp) ?_; refine AllReadyH.cons (o := _) rfl (fun K hK => ?_) (AllReadyH.cons (o := _) rfl (fun K hK => ?_) AllReadyH.nil))
    ·refine Eq.mpr (if_pos (by first | rfl | (simp [Region.wanted, yielded]; done))) ?_
     refine wp_recs [rA] 1 _ rfl rfl (by decide) (by decide) (by kernel_rfl) ?_
     have N12 := Lib.hid (newRs hHeld [rA] (one_plain rA_plain) (by decide))
     (refine hK.out _ _ (OldB.alloc hHeld _) (fun hHeld2 => ?_); clear hK K hHeld; have hHeld := hHeld2; clear hHeld2; try simp only [gmS])
     refine rdR 13 (fun K hK => ?_)
     go_simp
     (with_reducible refine (SAB.out _).mono ?_)
     rintro e y13 ⟨rfl, dy13⟩
     have N12 := Lib.hid (N12.out.below dy13)
     (refine hK.out _ _ (OldB.go hHeld dy13) (fun hHeld2 => ?_); clear hK K hHeld; have hHeld := hHeld2; clear hHeld2; try simp only [gmS])
     refine rdR 14 (fun K hK => ?_)
     refine wp_recs [saidR 1 benT] 1 _ rfl rfl (by decide) (by decide) (by kernel_rfl) ?_
     have N14 := Lib.hid (newRs hHeld [saidR 1 benT] (one_plain rN_plain) (by decide))
     have N12 := Lib.hid (N12.out.more N14.out)
     (refine hK.out _ _ (OldB.alloc hHeld _) (fun hHeld2 => ?_); clear hK K hHeld; have hHeld := hHeld2; clear hHeld2; try simp only [gmS])
     try simp only [World.size_alloc] at N12
     try simp only [World.size_alloc] at N14
     refine rdR 15 (fun K hK => ?_)
     go_simp
     (with_reducible refine (ppublic_any _ _ 1 1 _ _ 1 1 _ rfl rfl N12.out N14.out (TT.out _ (OV.go hHeld))).mono ?_)
     rw [PN.out]
     rintro e y15 ⟨rfl, dy15⟩
     (refine hK.out _ _ (OldB.go hHeld dy15) (fun hHeld2 => ?_); clear hK K hHeld; have hHeld := hHeld2; clear hHeld2; try simp only [gmS])
     (refine tkW 16 ?_; try simp only [gmS])
     (refine tkW 17 ?_; try simp only [gmS])
     (refine tkW 18 ?_; try simp only [gmS])
     have OW := Lib.hid (OV.go hHeld)
     (refine wpAnyH_done (by kernel_rfl) ?_ _; refine NoPanic.normal ?_)
     go_wp2_with fail
     go_ret
     exact ⟨rfl, BA.out _ OW.out⟩
    ·refine Eq.mpr (if_pos (by first | rfl | (simp [Region.wanted, yielded]; done))) ?_
     go_simp
     (with_reducible refine (SAB.out _).mono ?_)
     rintro e y13 ⟨rfl, dy13⟩
     (refine hK.out _ _ (OldB.go hHeld dy13) (fun hHeld2 => ?_); clear hK K hHeld; have hHeld := hHeld2; clear hHeld2; try simp only [gmS])
     (refine wpAnyH_ready (rs := [12, 14]) (by kernel_rfl) (by simp) ?_; refine AllReadyH.cons (o := _) rfl (fun K hK => ?_) (AllReadyH.cons (o := _) rfl (fun K hK => ?_) AllReadyH.nil))
     ·refine Eq.mpr (if_pos (by first | rfl | (simp [Region.wanted, yielded]; done))) ?_
      refine wp_recs [rA] 1 _ rfl rfl (by decide) (by decide) (by kernel_rfl) ?_
      have N12 := Lib.hid (newRs hHeld [rA] (one_plain rA_plain) (by decide))
      (refine hK.out _ _ (OldB.alloc hHeld _) (fun hHeld2 => ?_); clear hK K hHeld; have hHeld := hHeld2; clear hHeld2; try simp only [gmS])
      refine rdR 14 (fun K hK => ?_)
      refine wp_recs [saidR 1 benT] 1 _ rfl rfl (by decide) (by decide) (by kernel_rfl) ?_
      have N14 := Lib.hid (newRs hHeld [saidR 1 benT] (one_plain rN_plain) (by decide))
      have N12 := Lib.hid (N12.out.more N14.out)
      (refine hK.out _ _ (OldB.alloc hHeld _) (fun hHeld2 => ?_); clear hK K hHeld; have hHeld := hHeld2; clear hHeld2; try simp only [gmS])
      try simp only [World.size_alloc] at N12
      try simp only [World.size_alloc] at N14
      refine rdR 15 (fun K hK => ?_)
      go_simp
      (with_reducible refine (ppublic_any _ _ 1 1 _ _ 1 1 _ rfl rfl N12.out N14.out (TT.out _ (OV.go hHeld))).mono ?_)
      rw [PN.out]
      rintro e y15 ⟨rfl, dy15⟩
      (refine hK.out _ _ (OldB.go hHeld dy15) (fun hHeld2 => ?_); clear hK K hHeld; have hHeld := hHeld2; clear hHeld2; try simp only [gmS])
      (refine tkW 16 ?_; try simp only [gmS])
      (refine tkW 17 ?_; try simp only [gmS])
      (refine tkW 18 ?_; try simp only [gmS])
      have OW := Lib.hid (OV.go hHeld)
      (refine wpAnyH_done (by kernel_rfl) ?_ _; refine NoPanic.normal ?_)
      go_wp2_with fail
      go_ret
      exact ⟨rfl, BA.out _ OW.out⟩
     ·refine Eq.mpr (if_pos (by first | rfl | (simp [Region.wanted, yielded]; done))) ?_
      refine wp_recs [saidR 1 benT] 1 _ rfl rfl (by decide) (by decide) (by kernel_rfl) ?_
      have N14 := Lib.hid (newRs hHeld [saidR 1 benT] (one_plain rN_plain) (by decide))
      (refine hK.out _ _ (OldB.alloc hHeld _) (fun hHeld2 => ?_); clear hK K hHeld; have hHeld := hHeld2; clear hHeld2; try simp only [gmS])
      refine rdR 12 (fun K hK => ?_)
      refine wp_recs [rA] 1 _ rfl rfl (by decide) (by decide) (by kernel_rfl) ?_
      have N12 := Lib.hid (newRs hHeld [rA] (one_plain rA_plain) (by decide))
      have N14 := Lib.hid (N14.out.more N12.out)
      (refine hK.out _ _ (OldB.alloc hHeld _) (fun hHeld2 => ?_); clear hK K hHeld; have hHeld := hHeld2; clear hHeld2; try simp only [gmS])
      try simp only [World.size_alloc] at N12
      try simp only [World.size_alloc] at N14
      refine rdR 15 (fun K hK => ?_)
      go_simp
      (with_reducible refine (ppublic_any _ _ 1 1 _ _ 1 1 _ rfl rfl N12.out N14.out (TT.out _ (OV.go hHeld))).mono ?_)
      rw [PN.out]
      rintro e y15 ⟨rfl, dy15⟩
      (refine hK.out _ _ (OldB.go hHeld dy15) (fun hHeld2 => ?_); clear hK K hHeld; have hHeld := hHeld2; clear hHeld2; try simp only [gmS])
      (refine tkW 16 ?_; try simp only [gmS])
      (refine tkW 17 ?_; try simp only [gmS])
      (refine tkW 18 ?_; try simp only [gmS])
      have OW := Lib.hid (OV.go hHeld)
      (refine wpAnyH_done (by kernel_rfl) ?_ _; refine NoPanic.normal ?_)
      go_wp2_with fail
      go_ret
      exact ⟨rfl, BA.out _ OW.out⟩
end Go.Proofs.YtniklmikdkjgiaaGreatDoor
