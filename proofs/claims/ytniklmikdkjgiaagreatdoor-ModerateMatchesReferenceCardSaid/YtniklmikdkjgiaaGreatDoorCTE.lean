import Derived.Test.YtniklmikdkjgiaaGreatDoorCTC
import Derived.Test.YtniklmikdkjgiaaGreatDoorCTN
import Derived.Test.YtniklmikdkjgiaaGreatDoorCXK
set_option linter.all false
set_option maxHeartbeats 16000000
set_option maxRecDepth 100000
namespace Go.Proofs.YtniklmikdkjgiaaGreatDoor
open Go.RowKit
theorem rv21_2 (e : EV) (w : World) (h : EvIs w e) (hs : EdSz e.c) (hop : e.op = 2) (hz : zeroE (rbareV e).c = true) :
  Calls Tryz.prog 184 #[evA e] w fun en w' => en = .returned (.bool (validE e.c)) ∧ Below w.heap.size w w' := by
 have PM := Lib.hid (val_2 (e := e.c) hop (by rw [← rbare_c]; exact hz))
 obtain ⟨Ab, cb, Ac, cc, Ad, cd, hbL, hbO, hbS⟩ := zero_val (rbare_is h) hz
 have hbv : evA (rbareV e) = .agg #[.int .i64 e.op, .string ⟨#[]⟩, .string ⟨#[]⟩, .string ⟨#[]⟩, .int .i64 0, .int .i64 0, .string ⟨#[]⟩, .string ⟨#[]⟩, .slice Ab 0 cb, .string ⟨#[]⟩, .int .i64 0, .int .i64 0, .int .i64 0, .slice Ac 0 cc, .slice Ad 0 cd] := by unfold evA; rw [hbL]; rfl
 have HRO := (rbare_is h).ob
 have SRO := (rbare_sz hs).ob
 have RB0 := fun u (hu : Below w.heap.size w u) => rbare_any e u (h.below hu)
 obtain ⟨⟨A1, c1, v1, r1⟩, ho1⟩ := id h
 obtain ⟨⟨A3, c3, v3, -⟩, ⟨A4, c4, v4, -⟩⟩ := id ho1
 obtain ⟨nr, hnr⟩ : ∃ n, n = e.refs.length := ⟨_, rfl⟩
 have NR := Lib.hid hnr
 have hv : evA e = .agg #[.int .i64 e.op, .string (mkB e.id), .string (mkB e.other), .string (mkB e.node), .int .i64 e.x, .int .i64 e.y, .string (mkB e.key), .string (mkB e.value), .slice A1 nr c1, .string (mkB e.o.c.id), .int .i64 e.o.c.kind, .int .i64 e.o.c.x, .int .i64 e.o.c.y, .slice A3 e.o.c.refs.length c3, .slice A4 e.o.c.tags.length c4] := by unfold evA evL; rw [v1, v3, v4, ← hnr]
 rw [hv] at RB0 ⊢
 rw [hbv] at RB0
 obtain ⟨X, hX⟩ : ∃ X, X = w.alloc (.cells #[.int .i64 e.op, .string (mkB e.id), .string (mkB e.other), .string (mkB e.node), .int .i64 e.x, .int .i64 e.y, .string (mkB e.key), .string (mkB e.value), .slice A1 nr c1, .string (mkB e.o.c.id), .int .i64 e.o.c.kind, .int .i64 e.o.c.x, .int .i64 e.o.c.y, .slice A3 e.o.c.refs.length c3, .slice A4 e.o.c.tags.length c4] 93) := ⟨_, rfl⟩
 have BX : Below w.heap.size w X := by rw [hX]; exact (Below.refl _ _).alloc (Nat.le_refl _) _
 have E0 : X.heap[w.heap.size]? = some (.cells #[.int .i64 e.op, .string (mkB e.id), .string (mkB e.other), .string (mkB e.node), .int .i64 e.x, .int .i64 e.y, .string (mkB e.key), .string (mkB e.value), .slice A1 nr c1, .string (mkB e.o.c.id), .int .i64 e.o.c.kind, .int .i64 e.o.c.x, .int .i64 e.o.c.y, .slice A3 e.o.c.refs.length c3, .slice A4 e.o.c.tags.length c4] 93 (0, 0)) := by rw [hX]; exact heap_alloc_new w _
 have EL := lt_of_block E0
 have x0 := load_block (i := 0) E0 rfl
 have RX : Hid (X.rangeAt w.heap.size 0 [.int .i64 e.op, .string (mkB e.id), .string (mkB e.other), .string (mkB e.node), .int .i64 e.x, .int .i64 e.y, .string (mkB e.key), .string (mkB e.value), .slice A1 nr c1, .string (mkB e.o.c.id), .int .i64 e.o.c.kind, .int .i64 e.o.c.x, .int .i64 e.o.c.y, .slice A3 e.o.c.refs.length c3, .slice A4 e.o.c.tags.length c4]) := Lib.hid (range_of_row E0)
 have RB := Lib.hid (RB0 X BX)
 have BH := Lib.hid BX
 have X0 := Lib.hid hX
 have RO : Hid (∀ u : World, Below X.heap.size X u → Calls Tryz.prog 144 #[.agg #[.string ⟨#[]⟩, .int .i64 0, .int .i64 0, .int .i64 0, .slice Ac 0 cc, .slice Ad 0 cd], .agg #[.string ⟨#[]⟩, .int .i64 0, .int .i64 0, .int .i64 0, .slice none 0 0, .slice none 0 0]] u fun en w' => en = .returned (.bool true) ∧ Below u.heap.size u w') := Lib.hid (fun u hu => by
  have := rsame_any (rbareV e).o zRO u ((HRO.below BX).below hu) (zIs u) SRO zSz
  rw [hbO, zRO_val, hbS] at this
  exact this)
 have p1 : ¬ e.op < 1 := by omega
 have p7 : ¬ 7 < e.op := by omega
 have pz : ¬ (0 : Int) < ((0 : Nat) : Int) := by decide
 have e1 : (e.op == 1) = false := by rw [hop]; rfl
 have f1 : (e.op != 1) = true := by rw [hop]; rfl
 have e2 : (e.op == 2) = true := by rw [hop]; rfl
 have f2 : (e.op != 2) = false := by rw [hop]; rfl
 have e3 : (e.op == 3) = false := by rw [hop]; rfl
 have f3 : (e.op != 3) = true := by rw [hop]; rfl
 have e4 : (e.op == 4) = false := by rw [hop]; rfl
 have f4 : (e.op != 4) = true := by rw [hop]; rfl
 have e5 : (e.op == 5) = false := by rw [hop]; rfl
 have f5 : (e.op != 5) = true := by rw [hop]; rfl
 have e6 : (e.op == 6) = false := by rw [hop]; rfl
 have f6 : (e.op != 6) = true := by rw [hop]; rfl
 have e7 : (e.op == 7) = false := by rw [hop]; rfl
 have f7 : (e.op != 7) = true := by rw [hop]; rfl
 have XC : Hid (∀ u, Below X.heap.size X u → u.heap[w.heap.size]? = some (.cells #[.int .i64 e.op, .string (mkB e.id), .string (mkB e.other), .string (mkB e.node), .int .i64 e.x, .int .i64 e.y, .string (mkB e.key), .string (mkB e.value), .slice A1 nr c1, .string (mkB e.o.c.id), .int .i64 e.o.c.kind, .int .i64 e.o.c.x, .int .i64 e.o.c.y, .slice A3 e.o.c.refs.length c3, .slice A4 e.o.c.tags.length c4] 93 (0, 0))) := Lib.hid (fun u hu => (hu.block _ EL).trans E0)
 have NM : Hid (∀ (s : Tx) (u : World), s.length ≤ 1000000 → Calls Tryz.prog 132 #[.string (mkB s)] u fun en w' => en = .returned (.bool (At.nameB s)) ∧ w' = u) := Lib.hid (fun s u hl => rname_any s u (Nat.le_trans hl (by decide)))
 have hid : e.id.length ≤ 1000000 := hs.id
 have hother : e.other.length ≤ 1000000 := hs.other
 have hnode : e.node.length ≤ 1000000 := hs.node
 have hkey : e.key.length ≤ 1000000 := hs.key
 have hvalue : e.value.length ≤ 1000000 := hs.value
 have hrefs : nr ≤ 1000000 := by rw [hnr]; exact hs.refs
 have HREF : Hid (∀ s ∈ e.refs, s.length ≤ 1000000) := Lib.hid hs.ref
 have RR : Hid (∀ u : World, Below X.heap.size X u → Rd u A1 (strsC e.refs)) := Lib.hid (fun u hu => (r1.below BX).below hu)
 have hval : e.value.length ≤ 200 := val_zs (e := e.c) (show ¬ e.op = 3 by omega) (by rw [← rbare_c]; exact hz)
 have ON := Lib.hid (fun u : World => ron_any e.x e.y u)
 clear hX E0 EL BX h hs ho1 HRO SRO r1 v1 v3 v4 hv hnr hbL hbO hbS hbv RB0 hop hz
 obtain ⟨R, hR⟩ : ∃ R, R = validE e.c := ⟨_, rfl⟩
 rw [← hR] at PM ⊢
 clear hR
 go_enter Tryz.func184, Tryz.ntmps184
 go_upto_region 1 with fail
 rw [← X0.out]
 clear X0
 go_upto_region 4 with (first
  | (refine wpList_load_mid rfl 93 (.tmp 1) rfl w.heap.size 0 rfl [.int .i64 e.op, .string (mkB e.id), .string (mkB e.other), .string (mkB e.node), .int .i64 e.x, .int .i64 e.y, .string (mkB e.key), .string (mkB e.value), .slice A1 nr c1, .string (mkB e.o.c.id), .int .i64 e.o.c.kind, .int .i64 e.o.c.x, .int .i64 e.o.c.y, .slice A3 e.o.c.refs.length c3, .slice A4 e.o.c.tags.length c4] _ RX.out Tryz.underlying93 rfl (by kernel_rfl) ?_)
  | ((with_reducible refine RB.out.mono ?_); rintro en u1 ⟨rfl, b1⟩))
 obtain ⟨g, hg⟩ : ∃ g, u1.heap.size = g := ⟨_, rfl⟩
 obtain ⟨U, hU⟩ : ∃ U, U = u1.alloc (.cells #[.int .i64 e.op, .string ⟨#[]⟩, .string ⟨#[]⟩, .string ⟨#[]⟩, .int .i64 0, .int .i64 0, .string ⟨#[]⟩, .string ⟨#[]⟩, .slice Ab 0 cb, .string ⟨#[]⟩, .int .i64 0, .int .i64 0, .int .i64 0, .slice Ac 0 cc, .slice Ad 0 cd] 93) := ⟨_, rfl⟩
 have EU : U.heap[g]? = some (.cells #[.int .i64 e.op, .string ⟨#[]⟩, .string ⟨#[]⟩, .string ⟨#[]⟩, .int .i64 0, .int .i64 0, .string ⟨#[]⟩, .string ⟨#[]⟩, .slice Ab 0 cb, .string ⟨#[]⟩, .int .i64 0, .int .i64 0, .int .i64 0, .slice Ac 0 cc, .slice Ad 0 cd] 93 (0, 0)) := by rw [hU, ← hg]; exact heap_alloc_new u1 _
 have BU : Below X.heap.size X U := by rw [hU]; exact b1.alloc b1.size _
 have SO := Lib.hid (RO.out U BU)
 rw [← hU, hg]
 have z1 := load_block (i := 1) EU rfl
 have z2 := load_block (i := 2) EU rfl
 have z3 := load_block (i := 3) EU rfl
 have z4 := load_block (i := 4) EU rfl
 have z5 := load_block (i := 5) EU rfl
 have z6 := load_block (i := 6) EU rfl
 have z7 := load_block (i := 7) EU rfl
 have z8 := load_block (i := 8) EU rfl
 have z9 := load_block (i := 9) EU rfl
 have z10 := load_block (i := 10) EU rfl
 have z11 := load_block (i := 11) EU rfl
 have z12 := load_block (i := 12) EU rfl
 have z13 := load_block (i := 13) EU rfl
 have z14 := load_block (i := 14) EU rfl
 clear hU hg EU b1 RB RX RO x0
 go_wp2_with fail
 (with_reducible refine SO.out.mono ?_)
 rintro en u2 ⟨rfl, b2⟩
 have O2 : OldB X u2 := BU.trans (Below.mono b2 BU.size)
 clear b2 SO BU z1 z2 z3 z4 z5 z6 z7 z8 z9 z10 z11 z12 z13 z14
 have y0 := load_block (i := 0) (XC.out u2 O2) rfl
 have y1 := load_block (i := 1) (XC.out u2 O2) rfl
 go_upto_region 9 with fail
 obtain ⟨g2, hg2⟩ : ∃ g, u2.heap.size = g := ⟨_, rfl⟩
 obtain ⟨V, hV⟩ : ∃ V, V = u2.alloc (.cells #[.string (mkB e.id)] 9) := ⟨_, rfl⟩
 have OW : V.ownsRow X.heap.size 9 1 (.slice (some ⟨g2, 0, none⟩) 1 1) 1 (strsC [e.id]) := by rw [hV, ← hg2]; exact own_lit (Below.size O2) rfl (by decide)
 have OV : OldB X V := by rw [hV]; exact Below.alloc O2 (Below.size O2) _
 rw [← hV, hg2]
 clear y0 y1 hV hg2 O2
 obtain ⟨LL, hLL⟩ : ∃ LL : List Tx, LL = [e.id] := ⟨_, rfl⟩
 have PM2 : Hid (R = (LL.all At.nameB && (At.onB e.x e.y))) := Lib.hid (by rw [PM.out, hLL]; first | rfl | (rw [Bool.and_true]; rfl))
 have RDL : Hid (Rd V (some ⟨g2, 0, none⟩) (strsC LL)) := Lib.hid (by rw [hLL]; exact own_rdG OW)
 obtain ⟨AL, hAL0⟩ : ∃ AL : Option Addr, AL = (some ⟨g2, 0, none⟩) := ⟨_, rfl⟩
 rw [← hAL0] at RDL ⊢
 clear hAL0
 have HSL : Hid (∀ s ∈ LL, s.length ≤ 1000000) := Lib.hid (by
  intro t ht
  rw [hLL] at ht
  simp at ht
  rcases ht with rfl; exact hid)
 have HLN : Hid (1 = LL.length) := Lib.hid (by rw [hLL]; rfl)
 have hnl : 1 ≤ 1000001 := by omega
 have FV := Lib.hid (BH.out.trans (Below.mono OV BH.out.size))
 have y0 := load_block (i := 0) (XC.out V OV) rfl
 have y4 := load_block (i := 4) (XC.out V OV) rfl
 have y5 := load_block (i := 5) (XC.out V OV) rfl
 have y7 := load_block (i := 7) (XC.out V OV) rfl
 have y8 := load_block (i := 8) (XC.out V OV) rfl
 have HR0 : Hid (R = ((LL.drop 0).all At.nameB && (At.onB e.x e.y))) := PM2
 have mv := mkB_len e.value
 clear hLL PM PM2 OW OV XC RR BH hid hother hnode hkey HREF
 go_upto_region 18 with fail
 go_loopw [5] (fun s5 wr => ∃ k : Nat, k ≤ 1 ∧ s5 = .int .i64 (k : Int) ∧ Hid (R = ((LL.drop k).all At.nameB && (At.onB e.x e.y))) ∧ Hid (wr = V)) (fun i _ => 1 - (intOf i).toNat)
 case atStart => exact ⟨0, Nat.zero_le _, rfl, HR0, Lib.hid rfl⟩
 case round =>
  clear HR0
  obtain ⟨k, hkn, rfl, HR, EW⟩ := hrel
  by_cases hlt : k < 1
  ·have hkl : k < LL.length := by rw [← HLN.out]; exact hlt
   have d1 : (k : Int) < 1 := by omega
   have d2 : (0 : Int) ≤ (k : Int) := by omega
   obtain ⟨b, off, hAL, hb, c0⟩ := strs_at RDL.out hkl
   subst hAL
   rw [← EW.out] at c0
   have RK : Hid (R = (At.nameB LL[k] && ((LL.drop (k + 1)).all At.nameB && (At.onB e.x e.y)))) := Lib.hid (by rw [HR.out, List.drop_eq_getElem_cons hkl, List.all_cons, Bool.and_assoc])
   have IS := Lib.hid (NM.out LL[k] wr (HSL.out _ (List.getElem_mem hkl)))
   clear HR y0 y4 y5 y7 y8
   generalize At.nameB LL[k] = q at *
   generalize LL[k] = s at *
   go_wp2_with fail
   (with_reducible refine IS.out.mono ?_)
   rintro en w' ⟨rfl, rfl⟩
   clear IS
   cases q
   ·have RF : Hid (R = false) := Lib.hid (by rw [RK.out, Bool.false_and])
    clear RK
    go_wp2_with fail
    go_ret
    exact ⟨by rw [RF.out]; rfl, by rw [EW.out]; exact FV.out⟩
   ·have R2 : Hid (R = ((LL.drop (k + 1)).all At.nameB && (At.onB e.x e.y))) := Lib.hid (by rw [RK.out, Bool.true_and])
    clear RK
    go_wp2_with fail
    exact ⟨⟨k + 1, by omega, by go_num, R2, EW⟩, by simp [intOf]; omega⟩
  ·have d1 : ¬ (k : Int) < 1 := by omega
   have RT : Hid (R = (At.onB e.x e.y)) := Lib.hid (by rw [HR.out, List.drop_eq_nil_of_le (by rw [← HLN.out]; omega)]; rfl)
   have EWW := EW.out
   subst EWW
   clear HR
   have dv : (e.value.length : Int) ≤ 200 := by omega
   have ONV := Lib.hid (ON.out wr)
   generalize At.onB e.x e.y = q at *
   go_wp2_with fail
   (with_reducible refine ONV.out.mono ?_)
   rintro en u5 ⟨rfl, b5⟩
   have F5 := Lib.hid (FV.out.trans (b5.mono FV.out.size))
   clear b5 ONV
   go_wp2_with fail
   go_ret
   exact ⟨by rw [RT.out]; rfl, F5.out⟩
theorem rv21_3 (e : EV) (w : World) (h : EvIs w e) (hs : EdSz e.c) (hop : e.op = 3) (hz : zeroE (rbareV e).c = true) :
  Calls Tryz.prog 184 #[evA e] w fun en w' => en = .returned (.bool (validE e.c)) ∧ Below w.heap.size w w' := by
 have PM := Lib.hid (val_3 (e := e.c) hop (by rw [← rbare_c]; exact hz))
 obtain ⟨Ab, cb, Ac, cc, Ad, cd, hbL, hbO, hbS⟩ := zero_val (rbare_is h) hz
 have hbv : evA (rbareV e) = .agg #[.int .i64 e.op, .string ⟨#[]⟩, .string ⟨#[]⟩, .string ⟨#[]⟩, .int .i64 0, .int .i64 0, .string ⟨#[]⟩, .string ⟨#[]⟩, .slice Ab 0 cb, .string ⟨#[]⟩, .int .i64 0, .int .i64 0, .int .i64 0, .slice Ac 0 cc, .slice Ad 0 cd] := by unfold evA; rw [hbL]; rfl
 have HRO := (rbare_is h).ob
 have SRO := (rbare_sz hs).ob
 have RB0 := fun u (hu : Below w.heap.size w u) => rbare_any e u (h.below hu)
 obtain ⟨⟨A1, c1, v1, r1⟩, ho1⟩ := id h
 obtain ⟨⟨A3, c3, v3, -⟩, ⟨A4, c4, v4, -⟩⟩ := id ho1
 obtain ⟨nr, hnr⟩ : ∃ n, n = e.refs.length := ⟨_, rfl⟩
 have NR := Lib.hid hnr
 have hv : evA e = .agg #[.int .i64 e.op, .string (mkB e.id), .string (mkB e.other), .string (mkB e.node), .int .i64 e.x, .int .i64 e.y, .string (mkB e.key), .string (mkB e.value), .slice A1 nr c1, .string (mkB e.o.c.id), .int .i64 e.o.c.kind, .int .i64 e.o.c.x, .int .i64 e.o.c.y, .slice A3 e.o.c.refs.length c3, .slice A4 e.o.c.tags.length c4] := by unfold evA evL; rw [v1, v3, v4, ← hnr]
 rw [hv] at RB0 ⊢
 rw [hbv] at RB0
 obtain ⟨X, hX⟩ : ∃ X, X = w.alloc (.cells #[.int .i64 e.op, .string (mkB e.id), .string (mkB e.other), .string (mkB e.node), .int .i64 e.x, .int .i64 e.y, .string (mkB e.key), .string (mkB e.value), .slice A1 nr c1, .string (mkB e.o.c.id), .int .i64 e.o.c.kind, .int .i64 e.o.c.x, .int .i64 e.o.c.y, .slice A3 e.o.c.refs.length c3, .slice A4 e.o.c.tags.length c4] 93) := ⟨_, rfl⟩
 have BX : Below w.heap.size w X := by rw [hX]; exact (Below.refl _ _).alloc (Nat.le_refl _) _
 have E0 : X.heap[w.heap.size]? = some (.cells #[.int .i64 e.op, .string (mkB e.id), .string (mkB e.other), .string (mkB e.node), .int .i64 e.x, .int .i64 e.y, .string (mkB e.key), .string (mkB e.value), .slice A1 nr c1, .string (mkB e.o.c.id), .int .i64 e.o.c.kind, .int .i64 e.o.c.x, .int .i64 e.o.c.y, .slice A3 e.o.c.refs.length c3, .slice A4 e.o.c.tags.length c4] 93 (0, 0)) := by rw [hX]; exact heap_alloc_new w _
 have EL := lt_of_block E0
 have x0 := load_block (i := 0) E0 rfl
 have RX : Hid (X.rangeAt w.heap.size 0 [.int .i64 e.op, .string (mkB e.id), .string (mkB e.other), .string (mkB e.node), .int .i64 e.x, .int .i64 e.y, .string (mkB e.key), .string (mkB e.value), .slice A1 nr c1, .string (mkB e.o.c.id), .int .i64 e.o.c.kind, .int .i64 e.o.c.x, .int .i64 e.o.c.y, .slice A3 e.o.c.refs.length c3, .slice A4 e.o.c.tags.length c4]) := Lib.hid (range_of_row E0)
 have RB := Lib.hid (RB0 X BX)
 have BH := Lib.hid BX
 have X0 := Lib.hid hX
 have RO : Hid (∀ u : World, Below X.heap.size X u → Calls Tryz.prog 144 #[.agg #[.string ⟨#[]⟩, .int .i64 0, .int .i64 0, .int .i64 0, .slice Ac 0 cc, .slice Ad 0 cd], .agg #[.string ⟨#[]⟩, .int .i64 0, .int .i64 0, .int .i64 0, .slice none 0 0, .slice none 0 0]] u fun en w' => en = .returned (.bool true) ∧ Below u.heap.size u w') := Lib.hid (fun u hu => by
  have := rsame_any (rbareV e).o zRO u ((HRO.below BX).below hu) (zIs u) SRO zSz
  rw [hbO, zRO_val, hbS] at this
  exact this)
 have p1 : ¬ e.op < 1 := by omega
 have p7 : ¬ 7 < e.op := by omega
 have pz : ¬ (0 : Int) < ((0 : Nat) : Int) := by decide
 have e1 : (e.op == 1) = false := by rw [hop]; rfl
 have f1 : (e.op != 1) = true := by rw [hop]; rfl
 have e2 : (e.op == 2) = false := by rw [hop]; rfl
 have f2 : (e.op != 2) = true := by rw [hop]; rfl
 have e3 : (e.op == 3) = true := by rw [hop]; rfl
 have f3 : (e.op != 3) = false := by rw [hop]; rfl
 have e4 : (e.op == 4) = false := by rw [hop]; rfl
 have f4 : (e.op != 4) = true := by rw [hop]; rfl
 have e5 : (e.op == 5) = false := by rw [hop]; rfl
 have f5 : (e.op != 5) = true := by rw [hop]; rfl
 have e6 : (e.op == 6) = false := by rw [hop]; rfl
 have f6 : (e.op != 6) = true := by rw [hop]; rfl
 have e7 : (e.op == 7) = false := by rw [hop]; rfl
 have f7 : (e.op != 7) = true := by rw [hop]; rfl
 have XC : Hid (∀ u, Below X.heap.size X u → u.heap[w.heap.size]? = some (.cells #[.int .i64 e.op, .string (mkB e.id), .string (mkB e.other), .string (mkB e.node), .int .i64 e.x, .int .i64 e.y, .string (mkB e.key), .string (mkB e.value), .slice A1 nr c1, .string (mkB e.o.c.id), .int .i64 e.o.c.kind, .int .i64 e.o.c.x, .int .i64 e.o.c.y, .slice A3 e.o.c.refs.length c3, .slice A4 e.o.c.tags.length c4] 93 (0, 0))) := Lib.hid (fun u hu => (hu.block _ EL).trans E0)
 have NM : Hid (∀ (s : Tx) (u : World), s.length ≤ 1000000 → Calls Tryz.prog 132 #[.string (mkB s)] u fun en w' => en = .returned (.bool (At.nameB s)) ∧ w' = u) := Lib.hid (fun s u hl => rname_any s u (Nat.le_trans hl (by decide)))
 have hid : e.id.length ≤ 1000000 := hs.id
 have hother : e.other.length ≤ 1000000 := hs.other
 have hnode : e.node.length ≤ 1000000 := hs.node
 have hkey : e.key.length ≤ 1000000 := hs.key
 have hvalue : e.value.length ≤ 1000000 := hs.value
 have hrefs : nr ≤ 1000000 := by rw [hnr]; exact hs.refs
 have HREF : Hid (∀ s ∈ e.refs, s.length ≤ 1000000) := Lib.hid hs.ref
 have RR : Hid (∀ u : World, Below X.heap.size X u → Rd u A1 (strsC e.refs)) := Lib.hid (fun u hu => (r1.below BX).below hu)
 clear hX E0 EL BX h hs ho1 HRO SRO r1 v1 v3 v4 hv hnr hbL hbO hbS hbv RB0 hop hz
 obtain ⟨R, hR⟩ : ∃ R, R = validE e.c := ⟨_, rfl⟩
 rw [← hR] at PM ⊢
 clear hR
 go_enter Tryz.func184, Tryz.ntmps184
 go_upto_region 1 with fail
 rw [← X0.out]
 clear X0
 go_upto_region 4 with (first
  | (refine wpList_load_mid rfl 93 (.tmp 1) rfl w.heap.size 0 rfl [.int .i64 e.op, .string (mkB e.id), .string (mkB e.other), .string (mkB e.node), .int .i64 e.x, .int .i64 e.y, .string (mkB e.key), .string (mkB e.value), .slice A1 nr c1, .string (mkB e.o.c.id), .int .i64 e.o.c.kind, .int .i64 e.o.c.x, .int .i64 e.o.c.y, .slice A3 e.o.c.refs.length c3, .slice A4 e.o.c.tags.length c4] _ RX.out Tryz.underlying93 rfl (by kernel_rfl) ?_)
  | ((with_reducible refine RB.out.mono ?_); rintro en u1 ⟨rfl, b1⟩))
 obtain ⟨g, hg⟩ : ∃ g, u1.heap.size = g := ⟨_, rfl⟩
 obtain ⟨U, hU⟩ : ∃ U, U = u1.alloc (.cells #[.int .i64 e.op, .string ⟨#[]⟩, .string ⟨#[]⟩, .string ⟨#[]⟩, .int .i64 0, .int .i64 0, .string ⟨#[]⟩, .string ⟨#[]⟩, .slice Ab 0 cb, .string ⟨#[]⟩, .int .i64 0, .int .i64 0, .int .i64 0, .slice Ac 0 cc, .slice Ad 0 cd] 93) := ⟨_, rfl⟩
 have EU : U.heap[g]? = some (.cells #[.int .i64 e.op, .string ⟨#[]⟩, .string ⟨#[]⟩, .string ⟨#[]⟩, .int .i64 0, .int .i64 0, .string ⟨#[]⟩, .string ⟨#[]⟩, .slice Ab 0 cb, .string ⟨#[]⟩, .int .i64 0, .int .i64 0, .int .i64 0, .slice Ac 0 cc, .slice Ad 0 cd] 93 (0, 0)) := by rw [hU, ← hg]; exact heap_alloc_new u1 _
 have BU : Below X.heap.size X U := by rw [hU]; exact b1.alloc b1.size _
 have SO := Lib.hid (RO.out U BU)
 rw [← hU, hg]
 have z1 := load_block (i := 1) EU rfl
 have z2 := load_block (i := 2) EU rfl
 have z3 := load_block (i := 3) EU rfl
 have z4 := load_block (i := 4) EU rfl
 have z5 := load_block (i := 5) EU rfl
 have z6 := load_block (i := 6) EU rfl
 have z7 := load_block (i := 7) EU rfl
 have z8 := load_block (i := 8) EU rfl
 have z9 := load_block (i := 9) EU rfl
 have z10 := load_block (i := 10) EU rfl
 have z11 := load_block (i := 11) EU rfl
 have z12 := load_block (i := 12) EU rfl
 have z13 := load_block (i := 13) EU rfl
 have z14 := load_block (i := 14) EU rfl
 clear hU hg EU b1 RB RX RO x0
 go_wp2_with fail
 (with_reducible refine SO.out.mono ?_)
 rintro en u2 ⟨rfl, b2⟩
 have O2 : OldB X u2 := BU.trans (Below.mono b2 BU.size)
 clear b2 SO BU z1 z2 z3 z4 z5 z6 z7 z8 z9 z10 z11 z12 z13 z14
 have y0 := load_block (i := 0) (XC.out u2 O2) rfl
 have y1 := load_block (i := 1) (XC.out u2 O2) rfl
 go_upto_region 9 with fail
 obtain ⟨g2, hg2⟩ : ∃ g, u2.heap.size = g := ⟨_, rfl⟩
 obtain ⟨V, hV⟩ : ∃ V, V = u2.alloc (.cells #[.string (mkB e.id)] 9) := ⟨_, rfl⟩
 have OW : V.ownsRow X.heap.size 9 1 (.slice (some ⟨g2, 0, none⟩) 1 1) 1 (strsC [e.id]) := by rw [hV, ← hg2]; exact own_lit (Below.size O2) rfl (by decide)
 have OV : OldB X V := by rw [hV]; exact Below.alloc O2 (Below.size O2) _
 rw [← hV, hg2]
 clear y0 y1 hV hg2 O2
 have y0 := load_block (i := 0) (XC.out V OV) rfl
 have y6 := load_block (i := 6) (XC.out V OV) rfl
 have OWH := Lib.hid OW
 obtain ⟨n2, hn2⟩ : ∃ n, 1 + 1 = n := ⟨_, rfl⟩
 have bz : X.heap.size ≤ V.heap.size := Below.size OV
 go_upto_region 11 with (at_builtin; refine wpList_appNN rfl (.tmp 70) (.tmp 73) 35 rfl Tryz.underlying35 info_strG rfl (by decide) X.heap.size _ 1 (strsC [e.id]) _ 1 n2 hn2 (by decide) rfl (by intro y hy; simp at hy; rw [hy]; rfl) rfl rfl rfl OWH.out bz (by omega) (by omega) ?_; intro q2 c2x w2 ho2 hb2)
 have OW2 : w2.ownsRow X.heap.size 9 1 (.slice (some ⟨q2, 0, none⟩) n2 c2x) n2 (strsC ([e.id] ++ [e.key])) := by rw [strsC_app]; exact ho2
 have OV2 : OldB X w2 := Below.trans OV hb2
 clear y0 y6 OWH bz ho2 hb2 OW OV
 obtain ⟨LL, hLL⟩ : ∃ LL : List Tx, LL = [e.id, e.key] := ⟨_, rfl⟩
 have PM2 : Hid (R = (LL.all At.nameB && (decide (e.value.length ≤ 200)))) := Lib.hid (by rw [PM.out, hLL]; first | rfl | (rw [Bool.and_true]; rfl))
 have RDL : Hid (Rd w2 (some ⟨q2, 0, none⟩) (strsC LL)) := Lib.hid (by rw [hLL]; exact own_rdG OW2)
 obtain ⟨AL, hAL0⟩ : ∃ AL : Option Addr, AL = (some ⟨q2, 0, none⟩) := ⟨_, rfl⟩
 rw [← hAL0] at RDL ⊢
 clear hAL0
 have HSL : Hid (∀ s ∈ LL, s.length ≤ 1000000) := Lib.hid (by
  intro t ht
  rw [hLL] at ht
  simp at ht
  rcases ht with rfl | rfl; exact hid; exact hkey)
 have HLN : Hid (n2 = LL.length) := Lib.hid (by rw [hLL, ← hn2]; rfl)
 have hnl : n2 ≤ 1000001 := by omega
 have FV := Lib.hid (BH.out.trans (Below.mono OV2 BH.out.size))
 have y0 := load_block (i := 0) (XC.out w2 OV2) rfl
 have y4 := load_block (i := 4) (XC.out w2 OV2) rfl
 have y5 := load_block (i := 5) (XC.out w2 OV2) rfl
 have y7 := load_block (i := 7) (XC.out w2 OV2) rfl
 have y8 := load_block (i := 8) (XC.out w2 OV2) rfl
 have HR0 : Hid (R = ((LL.drop 0).all At.nameB && (decide (e.value.length ≤ 200)))) := PM2
 have mv := mkB_len e.value
 clear hLL PM PM2 OW2 OV2 XC RR BH hid hother hnode hkey HREF hn2
 go_upto_region 18 with fail
 go_loopw [5] (fun s5 wr => ∃ k : Nat, k ≤ n2 ∧ s5 = .int .i64 (k : Int) ∧ Hid (R = ((LL.drop k).all At.nameB && (decide (e.value.length ≤ 200)))) ∧ Hid (wr = w2)) (fun i _ => n2 - (intOf i).toNat)
 case atStart => exact ⟨0, Nat.zero_le _, rfl, HR0, Lib.hid rfl⟩
 case round =>
  clear HR0
  obtain ⟨k, hkn, rfl, HR, EW⟩ := hrel
  by_cases hlt : k < n2
  ·have hkl : k < LL.length := by rw [← HLN.out]; exact hlt
   have d1 : (k : Int) < (n2 : Int) := by omega
   have d2 : (0 : Int) ≤ (k : Int) := by omega
   obtain ⟨b, off, hAL, hb, c0⟩ := strs_at RDL.out hkl
   subst hAL
   rw [← EW.out] at c0
   have RK : Hid (R = (At.nameB LL[k] && ((LL.drop (k + 1)).all At.nameB && (decide (e.value.length ≤ 200))))) := Lib.hid (by rw [HR.out, List.drop_eq_getElem_cons hkl, List.all_cons, Bool.and_assoc])
   have IS := Lib.hid (NM.out LL[k] wr (HSL.out _ (List.getElem_mem hkl)))
   clear HR y0 y4 y5 y7 y8
   generalize At.nameB LL[k] = q at *
   generalize LL[k] = s at *
   go_wp2_with fail
   (with_reducible refine IS.out.mono ?_)
   rintro en w' ⟨rfl, rfl⟩
   clear IS
   cases q
   ·have RF : Hid (R = false) := Lib.hid (by rw [RK.out, Bool.false_and])
    clear RK
    go_wp2_with fail
    go_ret
    exact ⟨by rw [RF.out]; rfl, by rw [EW.out]; exact FV.out⟩
   ·have R2 : Hid (R = ((LL.drop (k + 1)).all At.nameB && (decide (e.value.length ≤ 200)))) := Lib.hid (by rw [RK.out, Bool.true_and])
    clear RK
    go_wp2_with fail
    exact ⟨⟨k + 1, by omega, by go_num, R2, EW⟩, by simp [intOf]; omega⟩
  ·have d1 : ¬ (k : Int) < (n2 : Int) := by omega
   have RT : Hid (R = (decide (e.value.length ≤ 200))) := Lib.hid (by rw [HR.out, List.drop_eq_nil_of_le (by rw [← HLN.out]; omega)]; rfl)
   have EWW := EW.out
   subst EWW
   clear HR
   by_cases hvl : e.value.length ≤ 200
   ·have dv : (e.value.length : Int) ≤ 200 := by omega
    have RT2 : Hid (R = true) := Lib.hid (by rw [RT.out, decide_eq_true hvl])
    clear RT
    go_wp2_with fail
    go_ret
    exact ⟨by rw [RT2.out]; rfl, FV.out⟩
   ·have dv : ¬ (e.value.length : Int) ≤ 200 := by omega
    have RT2 : Hid (R = false) := Lib.hid (by rw [RT.out, decide_eq_false hvl])
    clear RT
    go_wp2_with fail
    go_ret
    exact ⟨by rw [RT2.out]; rfl, FV.out⟩
end Go.Proofs.YtniklmikdkjgiaaGreatDoor
