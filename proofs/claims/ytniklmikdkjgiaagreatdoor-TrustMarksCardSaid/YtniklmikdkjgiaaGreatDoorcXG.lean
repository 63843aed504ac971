import Derived.Test.YtniklmikdkjgiaaGreatDoorcYA
import Derived.Test.YtniklmikdkjgiaaGreatDoorcYB
import Derived.Test.YtniklmikdkjgiaaGreatDoorcYC
import Derived.Lib.AppendZerosOnto
import Derived.Test.YtniklmikdkjgiaaGreatDoorWD
set_option linter.all false
set_option maxHeartbeats 16000000
set_option maxRecDepth 100000
namespace Go.Proofs.YtniklmikdkjgiaaGreatDoor
open Go.RowKit
theorem evalid_0 (e : EV) (w : World) (h : EvIs w e) (hs : EdSz e.c) (g1 : ¬ e.op = 1) (g2 : ¬ e.op = 2) (g3 : ¬ e.op = 3) (g4 : ¬ e.op = 4) (g5 : ¬ e.op = 5) (g6 : ¬ e.op = 6) (g7 : ¬ e.op = 7) :
    Calls Tryz.prog 173 #[evA e] w fun en w' => en = .returned (.bool (okE e.c && sameE (bareV e).c e.c)) ∧ Below w.heap.size w w' := by
  have G1 : Hid (¬ e.op = 1) := Lib.hid (by exact g1)
  have e1 : (e.op == 1) = false := by simpa using G1.out
  have G2 : Hid (¬ e.op = 2) := Lib.hid (by exact g2)
  have e2 : (e.op == 2) = false := by simpa using G2.out
  have G3 : Hid (¬ e.op = 3) := Lib.hid (by exact g3)
  have e3 : (e.op == 3) = false := by simpa using G3.out
  have G4 : Hid (¬ e.op = 4) := Lib.hid (by exact g4)
  have e4 : (e.op == 4) = false := by simpa using G4.out
  have G5 : Hid (¬ e.op = 5) := Lib.hid (by exact g5)
  have e5 : (e.op == 5) = false := by simpa using G5.out
  have G6 : Hid (¬ e.op = 6) := Lib.hid (by exact g6)
  have e6 : (e.op == 6) = false := by simpa using G6.out
  have G7 : Hid (¬ e.op = 7) := Lib.hid (by exact g7)
  have e7 : (e.op == 7) = false := by simpa using G7.out
  clear g1 g2 g3 g4 g5 g6 g7
  obtain ⟨⟨A1, c1, v1, r1⟩, ho1⟩ := id h
  obtain ⟨⟨A3, c3, v3, -⟩, ⟨A4, c4, v4, -⟩⟩ := id ho1
  have hv : evA e = .agg #[.int .i64 e.op, .string (mkB e.id), .string (mkB e.other), .string (mkB e.node), .int .i64 e.x, .int .i64 e.y, .string (mkB e.key), .string (mkB e.value), .slice A1 e.refs.length c1, .string (mkB e.o.c.id), .int .i64 e.o.c.kind, .int .i64 e.o.c.x, .int .i64 e.o.c.y, .slice A3 e.o.c.refs.length c3, .slice A4 e.o.c.tags.length c4] := by unfold evA evL; rw [v1, v3, v4]
  have hro : roA e.o = .agg #[.string (mkB e.o.c.id), .int .i64 e.o.c.kind, .int .i64 e.o.c.x, .int .i64 e.o.c.y, .slice A3 e.o.c.refs.length c3, .slice A4 e.o.c.tags.length c4] := by unfold roA; rw [v3, v4]
  obtain ⟨bt, hbt⟩ : ∃ bt, w.heap.size + 1 = bt := ⟨_, rfl⟩
  obtain ⟨W, hW⟩ : ∃ W, W = (w.alloc (.cells #[.int .i64 e.op, .string (mkB e.id), .string (mkB e.other), .string (mkB e.node), .int .i64 e.x, .int .i64 e.y, .string (mkB e.key), .string (mkB e.value), .slice A1 e.refs.length c1, .string (mkB e.o.c.id), .int .i64 e.o.c.kind, .int .i64 e.o.c.x, .int .i64 e.o.c.y, .slice A3 e.o.c.refs.length c3, .slice A4 e.o.c.tags.length c4] 93)).alloc (.cells #[.int .i64 e.op, .string (mkB e.id), .string ⟨#[]⟩, .string ⟨#[]⟩, .int .i64 0, .int .i64 0, .string ⟨#[]⟩, .string ⟨#[]⟩, .slice none 0 0, .string ⟨#[]⟩, .int .i64 0, .int .i64 0, .int .i64 0, .slice none 0 0, .slice none 0 0] 93) := ⟨_, rfl⟩
  have HX : Hid (W.heap[w.heap.size]? = some (.cells #[.int .i64 e.op, .string (mkB e.id), .string (mkB e.other), .string (mkB e.node), .int .i64 e.x, .int .i64 e.y, .string (mkB e.key), .string (mkB e.value), .slice A1 e.refs.length c1, .string (mkB e.o.c.id), .int .i64 e.o.c.kind, .int .i64 e.o.c.x, .int .i64 e.o.c.y, .slice A3 e.o.c.refs.length c3, .slice A4 e.o.c.tags.length c4] 93 (0, 0))) := Lib.hid (by rw [hW]; exact (alloc_old _ _ (by simp)).trans (heap_alloc_new w _))
  have E : Hid (W.heap[bt]? = some (.cells #[.int .i64 e.op, .string (mkB e.id), .string ⟨#[]⟩, .string ⟨#[]⟩, .int .i64 0, .int .i64 0, .string ⟨#[]⟩, .string ⟨#[]⟩, .slice none 0 0, .string ⟨#[]⟩, .int .i64 0, .int .i64 0, .int .i64 0, .slice none 0 0, .slice none 0 0] 93 (0, 0))) := Lib.hid (by rw [hW, ← hbt]; exact alloc_new' _ _ _ (by simp))
  have HZ : W.heap.size = w.heap.size + 2 := by rw [hW]; simp
  have BH : Hid (Below w.heap.size w W) := Lib.hid (by rw [hW]; exact ((Below.refl _ _).alloc (Nat.le_refl _) _).alloc (by simp) _)
  have BA : Hid (∀ u, XB bt W u → Below w.heap.size w u) := Lib.hid (fun u hu => BH.out.trans (But.below hu (by omega) (by intro k hk; omega)))
  have kx : ∀ (i : Nat) v, (#[.int .i64 e.op, .string (mkB e.id), .string (mkB e.other), .string (mkB e.node), .int .i64 e.x, .int .i64 e.y, .string (mkB e.key), .string (mkB e.value), .slice A1 e.refs.length c1, .string (mkB e.o.c.id), .int .i64 e.o.c.kind, .int .i64 e.o.c.x, .int .i64 e.o.c.y, .slice A3 e.o.c.refs.length c3, .slice A4 e.o.c.tags.length c4] : Array Value)[i]? = some v → ∀ u, XB bt W u → u.cell? ⟨w.heap.size, i, none⟩ = some v := fun i v hv u hu => by
    rw [Lib.cell_of_heap ((But.block hu w.heap.size (by omega) (by omega)).trans HX.out)]; exact hv
  have k0 := kx 0 _ rfl
  have k1 := kx 1 _ rfl
  have k2 := kx 2 _ rfl
  have k3 := kx 3 _ rfl
  have k4 := kx 4 _ rfl
  have k5 := kx 5 _ rfl
  have k6 := kx 6 _ rfl
  have k7 := kx 7 _ rfl
  have k8 := kx 8 _ rfl
  have k9 := kx 9 _ rfl
  have k10 := kx 10 _ rfl
  have k11 := kx 11 _ rfl
  have k12 := kx 12 _ rfl
  have k13 := kx 13 _ rfl
  have k14 := kx 14 _ rfl
  clear kx
  have VA : Hid (∀ u, XB bt W u → Calls Tryz.prog 196 #[roA e.o] u fun e2 w' => e2 = .returned (.bool (At.validO e.o.c)) ∧ Below u.heap.size u w') := Lib.hid (fun u hu => valid_any e.o u (ho1.below (BA.out u hu)) hs.ob hs.obr)
  rw [hro] at VA
  have SA : Hid (∀ u, XB bt W u → Calls Tryz.prog 197 #[evA (bareV e), evA e] u fun e2 w' => e2 = .returned (.bool (sameE (bareV e).c e.c)) ∧ Below u.heap.size u w') := Lib.hid (fun u hu => esame_any (bareV e) e u ((bare_is h).below (BA.out u hu)) (h.below (BA.out u hu)) (bare_sz hs) hs)
  rw [hv] at SA ⊢
  have R1 := Lib.hid r1
  have NA := names1L e.id W hs.id
  clear r1 h ho1 hv hro HZ
  go_enter Tryz.func173, Tryz.ntmps173
  go_upto_region 2 with fail
  rw [← hW]
  try rw [hbt]
  have SW : XB bt W W := But.refl _ _
  have NH := Lib.hid NA
  clear hW NA
  go_wp2_with fail
  refine NH.out.mono ?_
  rintro en u1 ⟨rfl, d1⟩
  have d2 := ((Below.refl W.heap.size W).alloc (Nat.le_refl _) (.cells #[.string (mkB e.id)] 9)).trans (d1.mono (by simp))
  have E := Lib.hid (XB.keep SW E.out d2)
  have S1 := Lib.hid (XB.call SW d2)
  have hH := S1.out
  obtain ⟨nb, hnb⟩ : ∃ nb, At.nameB e.id = nb := ⟨_, rfl⟩
  have hnb' : At.nameB e.c.id = nb := hnb
  rw [hnb]
  have NB := Lib.hid hnb'
  clear d1 d2 SW NH hnb hnb'
  have OK : Hid (okE e.c = false) := Lib.hid (by unfold okE; rw [if_neg (show ¬ e.c.op = 1 from G1.out), if_neg (show ¬ e.c.op = 2 from G2.out), if_neg (show ¬ e.c.op = 3 from G3.out), if_neg (show ¬ e.c.op = 4 from G4.out), if_neg (show ¬ e.c.op = 5 from G5.out), if_neg (show ¬ e.c.op = 6 from G6.out), if_neg (show ¬ e.c.op = 7 from G7.out)])
  have hHeld := S1.out
  have PF : Hid ((okE e.c && sameE (bareV e).c e.c) = false) := Lib.hid (by rw [OK.out]; rfl)
  have XF := Lib.hid (BA.out _ hHeld)
  go_wp2_with fail
  go_ret
  exact ⟨by rw [PF.out]; rfl, XF.out⟩
theorem evalid_any (e : EV) (w : World) (h : EvIs w e) (hs : EdSz e.c) :
    Calls Tryz.prog 173 #[evA e] w fun en w' => en = .returned (.bool (okE e.c && sameE (bareV e).c e.c)) ∧ Below w.heap.size w w' := by
  by_cases h1 : e.op = 1
  · exact evalid_1 e w h hs h1
  by_cases h2 : e.op = 2
  · exact evalid_2 e w h hs h2
  by_cases h3 : e.op = 3
  · exact evalid_3 e w h hs h3
  by_cases h4 : e.op = 4
  · exact evalid_4 e w h hs h4
  by_cases h5 : e.op = 5
  · exact evalid_5 e w h hs h5
  by_cases h6 : e.op = 6
  · exact evalid_6 e w h hs h6
  by_cases h7 : e.op = 7
  · exact evalid_7 e w h hs h7
  exact evalid_0 e w h hs h1 h2 h3 h4 h5 h6 h7
end Go.Proofs.YtniklmikdkjgiaaGreatDoor
namespace Go.Proofs.YtniklmikdkjgiaaGreatDoor
open Go.RowKit
def bareE (e : Ed) : Ed :=
  if e.op = 1 then ⟨e.op, [], [], [], 0, 0, [], [], [], e.ob⟩
  else if e.op = 2 then ⟨e.op, e.id, [], [], e.x, e.y, [], [], [], zOb⟩
  else if e.op = 3 then ⟨e.op, e.id, [], [], 0, 0, e.key, e.value, [], zOb⟩
  else if e.op = 4 then ⟨e.op, e.id, [], [], 0, 0, [], [], e.refs, zOb⟩
  else if e.op = 5 then ⟨e.op, e.id, [], [], 0, 0, [], [], [], zOb⟩
  else if e.op = 6 then ⟨e.op, e.id, e.other, e.node, 0, 0, [], [], [], zOb⟩
  else ⟨e.op, e.id, e.other, [], 0, 0, [], [], [], zOb⟩
theorem bare_c (e : EV) : (bareV e).c = bareE e.c := by
  unfold bareV bareE
  rw [show e.c.op = e.op from rfl]
  by_cases h1 : e.op = 1
  · rw [if_pos h1, if_pos h1]; rfl
  rw [if_neg h1, if_neg h1]
  by_cases h2 : e.op = 2
  · rw [if_pos h2, if_pos h2]; rfl
  rw [if_neg h2, if_neg h2]
  by_cases h3 : e.op = 3
  · rw [if_pos h3, if_pos h3]; rfl
  rw [if_neg h3, if_neg h3]
  by_cases h4 : e.op = 4
  · rw [if_pos h4, if_pos h4]; rfl
  rw [if_neg h4, if_neg h4]
  by_cases h5 : e.op = 5
  · rw [if_pos h5, if_pos h5]; rfl
  rw [if_neg h5, if_neg h5]
  by_cases h6 : e.op = 6
  · rw [if_pos h6, if_pos h6]; rfl
  rw [if_neg h6, if_neg h6]
  rfl
def validE (e : Ed) : Bool := okE e && sameE (bareE e) e
def EvCap (e : EV) : Prop := (∀ A n c, e.rv = .slice A n c → n ≤ c) ∧ (∀ A n c, e.o.rv = .slice A n c → n ≤ c)
structure Es (w : World) (A : Option Addr) (l : List EV) : Prop where
  rd : Rd w A (evsL l)
  is : ∀ e ∈ l, EvIs w e
  sz : ∀ e ∈ l, EdSz e.c
  cap : ∀ e ∈ l, EvCap e
  len : l.length ≤ 100000
theorem Es.below {w w' : World} {A : Option Addr} {l : List EV} (h : Es w A l) (hb : Below w.heap.size w w') : Es w' A l := ⟨h.rd.below hb, fun e he => (h.is e he).below hb, h.sz, h.cap, h.len⟩
def edsC (l : List EV) : List Ed := l.map EV.c
theorem evs_at {w : World} {A : Option Addr} {l : List EV} (h : Rd w A (evsL l)) {k : Nat} (hk : k < l.length) :
    ∃ b off, A = some ⟨b, off, none⟩ ∧ b < w.heap.size ∧ ∀ i v, (evL l[k])[i]? = some v → w.cell? ⟨b, off + k * 15 + i, none⟩ = some v := by
  obtain ⟨b, off, e, hb, hc⟩ := h (by rw [evsL_len]; omega)
  refine ⟨b, off, e, hb, fun i v hv => ?_⟩
  have := hc (k * 15 + i) v (flat_get evL 15 (fun _ => rfl) hk hv)
  rwa [← Nat.add_assoc] at this
theorem evs_cells {w : World} {A : Option Addr} {l : List EV} (h : Es w A l) {k : Nat} (hk : k < l.length) :
    ∃ b off A1 c1 A3 c3 A4 c4, A = some ⟨b, off, none⟩ ∧ b < w.heap.size ∧ evA l[k] = .agg #[.int .i64 l[k].op, .string (mkB l[k].id), .string (mkB l[k].other), .string (mkB l[k].node), .int .i64 l[k].x, .int .i64 l[k].y, .string (mkB l[k].key), .string (mkB l[k].value), .slice A1 l[k].refs.length c1, .string (mkB l[k].o.c.id), .int .i64 l[k].o.c.kind, .int .i64 l[k].o.c.x, .int .i64 l[k].o.c.y, .slice A3 l[k].o.c.refs.length c3, .slice A4 l[k].o.c.tags.length c4] ∧
    (∀ i v, ([.int .i64 l[k].op, .string (mkB l[k].id), .string (mkB l[k].other), .string (mkB l[k].node), .int .i64 l[k].x, .int .i64 l[k].y, .string (mkB l[k].key), .string (mkB l[k].value), .slice A1 l[k].refs.length c1, .string (mkB l[k].o.c.id), .int .i64 l[k].o.c.kind, .int .i64 l[k].o.c.x, .int .i64 l[k].o.c.y, .slice A3 l[k].o.c.refs.length c3, .slice A4 l[k].o.c.tags.length c4] : List Value)[i]? = some v → w.cell? ⟨b, off + k * 15 + i, none⟩ = some v) := by
  obtain ⟨b, off, e, hb, hc⟩ := evs_at h.rd hk
  have hi := h.is l[k] (List.getElem_mem hk)
  obtain ⟨A1, c1, v1, -⟩ := hi.rs
  obtain ⟨A3, c3, v3, -⟩ := hi.ob.rs
  obtain ⟨A4, c4, v4, -⟩ := hi.ob.ts
  refine ⟨b, off, A1, c1, A3, c3, A4, c4, e, hb, by unfold evA evL; rw [v1, v3, v4], ?_⟩
  unfold evL at hc
  rw [v1, v3, v4] at hc
  exact hc
theorem cvalid1_any (e : EV) (w : World) (h : EvIs w e) (hs : EdSz e.c) :
    Calls Tryz.prog 172 #[evA e] w fun en w' => en = .returned (.bool (!validE e.c)) ∧ Below w.heap.size w w' := by
  obtain ⟨A1, c1, v1, -⟩ := h.rs
  obtain ⟨A3, c3, v3, -⟩ := h.ob.rs
  obtain ⟨A4, c4, v4, -⟩ := h.ob.ts
  have hv : evA e = .agg #[.int .i64 e.op, .string (mkB e.id), .string (mkB e.other), .string (mkB e.node), .int .i64 e.x, .int .i64 e.y, .string (mkB e.key), .string (mkB e.value), .slice A1 e.refs.length c1, .string (mkB e.o.c.id), .int .i64 e.o.c.kind, .int .i64 e.o.c.x, .int .i64 e.o.c.y, .slice A3 e.o.c.refs.length c3, .slice A4 e.o.c.tags.length c4] := by unfold evA evL; rw [v1, v3, v4]
  have EV := fun u (hu : Below w.heap.size w u) => evalid_any e u (h.below hu) hs
  rw [bare_c] at EV
  rw [show validE e.c = (okE e.c && sameE (bareE e.c) e.c) from rfl]
  generalize (okE e.c && sameE (bareE e.c) e.c) = R at *
  rw [hv] at EV ⊢
  have BX := Lib.hid ((Below.refl w.heap.size w).alloc (Nat.le_refl _) (.cells #[.int .i64 e.op, .string (mkB e.id), .string (mkB e.other), .string (mkB e.node), .int .i64 e.x, .int .i64 e.y, .string (mkB e.key), .string (mkB e.value), .slice A1 e.refs.length c1, .string (mkB e.o.c.id), .int .i64 e.o.c.kind, .int .i64 e.o.c.x, .int .i64 e.o.c.y, .slice A3 e.o.c.refs.length c3, .slice A4 e.o.c.tags.length c4] 93))
  have EW := Lib.hid (EV _ BX.out)
  clear h hs hv v1 v3 v4 EV
  go_enter Tryz.func172, Tryz.ntmps172
  go_wp2_with fail
  refine EW.out.mono ?_
  rintro en w1 ⟨rfl, b1⟩
  have B1 := Lib.hid (BX.out.trans (b1.mono BX.out.size))
  clear b1 EW
  go_wp2_with fail
  go_ret
  exact ⟨rfl, B1.out⟩
theorem idxe_any (A : Option Addr) (n c : Nat) (l : List EV) (w : World) (hn : n = l.length) (h : Es w A l) :
    Calls Tryz.prog 194 #[.slice A n c, .func (.func 172) #[] #[]] w fun e w' => (∃ i : Int, e = .returned (.int .i64 i) ∧ decide (0 ≤ i) = (edsC l).any fun e => !validE e) ∧ Below w.heap.size w w' := by
  have hl : n ≤ 100000 := by rw [hn]; exact h.len
  have H := Lib.hid h
  have HN := Lib.hid hn
  obtain ⟨R, hR⟩ : ∃ R, ((edsC l).any fun e => !validE e) = R := ⟨_, rfl⟩
  have ST : Hid (R = (edsC (l.drop 0)).any fun e => !validE e) := Lib.hid hR.symm
  have HB : Hid (Below w.heap.size w w) := Lib.hid (Below.refl _ _)
  rw [hR]
  clear hR h hn
  go_enter Tryz.func194, Tryz.ntmps194
  go_wp2_with fail
  go_loopw [8] (fun s8 wr => ∃ k : Nat, k ≤ n ∧ s8 = .int .i64 (k : Int) ∧ Hid (R = (edsC (l.drop k)).any fun e => !validE e) ∧ Hid (Below w.heap.size w wr)) (fun i _ => n - (intOf i).toNat)
  case atStart => exact ⟨0, Nat.zero_le _, rfl, ST, HB⟩
  case round =>
    clear ST HB
    obtain ⟨k, hkn, rfl, RK, BL⟩ := hrel
    by_cases hlt : k < n
    · have hkl : k < l.length := by rw [← HN.out]; exact hlt
      have d1 : (k : Int) < (n : Int) := by omega
      have d2 : (0 : Int) ≤ (k : Int) := by omega
      obtain ⟨b, off, A1, c1, A3, c3, A4, c4, rfl, hbz, hv, hc⟩ := evs_cells (H.out.below BL.out) hkl
      have RK2 : Hid (R = (!validE l[k].c || (edsC (l.drop (k + 1))).any fun e => !validE e)) := Lib.hid (by rw [RK.out, List.drop_eq_getElem_cons hkl]; rfl)
      have CS := cvalid1_any l[k] wr (H.out.is _ (List.getElem_mem hkl) |>.below BL.out) (H.out.sz _ (List.getElem_mem hkl))
      rw [hv] at CS
      have CV := Lib.hid CS
      have z0 : wr.cell? ⟨b, off + k * 15, none⟩ = some (.int .i64 l[k].op) := hc 0 _ rfl
      have z1 := hc 1 _ rfl
      have z2 := hc 2 _ rfl
      have z3 := hc 3 _ rfl
      have z4 := hc 4 _ rfl
      have z5 := hc 5 _ rfl
      have z6 := hc 6 _ rfl
      have z7 := hc 7 _ rfl
      have z8 := hc 8 _ rfl
      have z9 := hc 9 _ rfl
      have z10 := hc 10 _ rfl
      have z11 := hc 11 _ rfl
      have z12 := hc 12 _ rfl
      have z13 := hc 13 _ rfl
      have z14 := hc 14 _ rfl
      generalize validE l[k].c = vb at *
      generalize l[k] = x at *
      clear CS hc hv
      go_wp2_with fail
      refine CV.out.mono ?_
      rintro e w1 ⟨rfl, b1⟩
      have BL2 := Lib.hid (BL.out.trans (b1.mono BL.out.size))
      clear b1 CV RK z0 z1 z2 z3 z4 z5 z6 z7 z8 z9 z10 z11 z12 z13 z14
      cases vb
      · have RT : Hid (R = true) := Lib.hid (by rw [RK2.out]; rfl)
        go_wp2_with fail
        go_ret
        exact ⟨⟨(k : Int), rfl, by rw [RT.out, decide_eq_true d2]⟩, BL2.out⟩
      · have RK3 : Hid (R = (edsC (l.drop (k + 1))).any fun e => !validE e) := Lib.hid (by rw [RK2.out]; rfl)
        clear RK2
        go_wp2_with fail
        exact ⟨⟨k + 1, by omega, by go_num, RK3, BL2⟩, by simp [intOf]; omega⟩
    · have d1 : ¬ (k : Int) < (n : Int) := by omega
      have RF : Hid (R = false) := Lib.hid (by rw [RK.out, List.drop_eq_nil_of_le (by rw [← HN.out]; omega)]; rfl)
      go_wp2_with fail
      go_ret
      exact ⟨⟨-1, rfl, by rw [RF.out]; rfl⟩, BL.out⟩
theorem hase_any (A : Option Addr) (n c : Nat) (l : List EV) (w : World) (hn : n = l.length) (h : Es w A l) :
    Calls Tryz.prog 171 #[.slice A n c, .func (.func 172) #[] #[]] w fun e w' => e = .returned (.bool ((edsC l).any fun e => !validE e)) ∧ Below w.heap.size w w' := by
  have IX := Lib.hid (idxe_any A n c l w hn h)
  generalize ((edsC l).any fun e => !validE e) = R at *
  clear hn h
  go_enter Tryz.func171, Tryz.ntmps171
  go_wp2_with fail
  refine IX.out.mono ?_
  rintro e w1 ⟨⟨i, rfl, hi⟩, bt⟩
  have BT := Lib.hid bt
  clear bt IX
  cases R
  · go_wp2_with fail
    go_ret
    exact ⟨rfl, BT.out⟩
  · go_wp2_with fail
    go_ret
    exact ⟨rfl, BT.out⟩
def validC (l : List Ed) : Bool := decide (0 < l.length) && decide (l.length ≤ 200) && l.all validE
theorem cvalid_any (A : Option Addr) (n c : Nat) (l : List EV) (w : World) (hn : n = l.length) (h : Es w A l) :
    Calls Tryz.prog 147 #[.slice A n c] w fun e w' => e = .returned (.bool (validC (edsC l))) ∧ Below w.heap.size w w' := by
  have hl : n ≤ 100000 := by rw [hn]; exact h.len
  have HA := Lib.hid (hase_any A n c l w hn h)
  have PM : Hid (validC (edsC l) = (decide (0 < n) && decide (n ≤ 200) && !((edsC l).any fun e => !validE e))) := Lib.hid (by unfold validC; rw [any_not, hn]; simp [edsC])
  generalize ((edsC l).any fun e => !validE e) = R at *
  generalize validC (edsC l) = Q at *
  have HB : Hid (Below w.heap.size w w) := Lib.hid (Below.refl _ _)
  clear hn h
  go_enter Tryz.func147, Tryz.ntmps147
  by_cases h1 : 0 < n
  · have d1 : (0 : Int) < (n : Int) := by omega
    by_cases h2 : n ≤ 200
    · have d2 : (n : Int) ≤ 200 := by omega
      have P2 : Hid (Q = !R) := Lib.hid (by rw [PM.out, decide_eq_true h1, decide_eq_true h2]; rfl)
      clear PM h1 h2
      go_wp2_with fail
      refine HA.out.mono ?_
      rintro e w1 ⟨rfl, b1⟩
      have B1 := Lib.hid b1
      clear b1 HA
      go_wp2_with fail
      go_ret
      exact ⟨by rw [P2.out]; rfl, B1.out⟩
    · have d2 : ¬ (n : Int) ≤ 200 := by omega
      have P2 : Hid (Q = false) := Lib.hid (by rw [PM.out, decide_eq_true h1, decide_eq_false h2]; rfl)
      clear PM h1 h2
      go_wp2_with fail
      go_ret
      exact ⟨by rw [P2.out]; rfl, HB.out⟩
  · have d1 : ¬ (0 : Int) < (n : Int) := by omega
    have P2 : Hid (Q = false) := Lib.hid (by rw [PM.out, decide_eq_false h1]; rfl)
    clear PM h1
    go_wp2_with fail
    go_ret
    exact ⟨by rw [P2.out]; rfl, HB.out⟩
end Go.Proofs.YtniklmikdkjgiaaGreatDoor
namespace Go.Proofs.YtniklmikdkjgiaaGreatDoor
open Go.RowKit
theorem wpList_appLG {P : Program} {ops : Array Oper} {rest : List Oper} {o : Oper} {a : Act} {Q : Exit → Act → World → Prop} {w : World} (hgd : o.guard = none) (s x : Operand) (t : TypeId)
    (ho : o.op = .call { callee := .builtin .append, args := #[s, x], argTypes := #[t, t] }) {e : TypeId} {z : Value} {bytes : Nat}
    (ht : P.underlying t = some (.slice e)) (hinfo : (P.info? e).map (fun i => (i.zero, i.size, i.bytes)) = some (some z, 1, bytes)) (hzs : z.cells.size = 1)
    (base : Nat) (v : Value) (n : Nat) (xs : List Value) (A : Option Addr) (m c : Nat) (news : List Value) (h1 : ∀ u ∈ news, u.oneCell' = true)
    (hs : a.eval s = v) (hx : a.eval x = .slice A m c) (hown : w.ownsRow base e 1 v n xs) (hr : Rd w A news) (hm : news.length = m) (hm0 : 0 < m) (hb : base ≤ w.heap.size)
    (hbytes : (n + m) * bytes ≤ 140737488355328) (hmax : n + m ≤ 9223372036854775807)
    (h : ∀ A' c' w', w'.ownsRow base e 1 (.slice A' (n + m) c') (n + m) (xs ++ news) → Below base w w' → wpList P ops Q rest (a.put o.dst (.slice A' (n + m) c')) w') :
    wpList P ops Q (o :: rest) a w := by
  obtain ⟨i, hi, hz, hsi, hby⟩ := info_parts hinfo
  obtain ⟨b, off, rfl, hbl, hc⟩ := hr (by omega)
  refine wpList_append_lies w hgd s x t ho base e i z 1 bytes ht hi hz hsi hby hzs (by omega) v n xs hs hown ⟨b, off, none⟩ m c news hx (by omega) ?_ h1 hm0 (by simpa [maxLen] using hmax) hbytes hb w.heap.size rfl ?_
  · intro j u hu
    rw [Addr.add_lit]
    exact hc j u hu
  · intro g c' w' hown' hg hl _
    exact h _ c' w' hown' (grown_below hg (fun k hk => (hown.lt k hk).1) hb)
theorem strs_one (l : List Tx) : ∀ u ∈ strsC l, u.oneCell' = true := fun u hu => by
  obtain ⟨s, -, rfl⟩ := List.mem_map.1 hu; rfl
theorem strsC_app (a b : List Tx) : strsC (a ++ b) = strsC a ++ strsC b := List.map_append ..
theorem grow_nil (n : Nat) (w : World) (h1 : 0 < n) (hn : n ≤ 1000000) :
    Calls Tryz.prog 201 #[.slice none 0 0, .int .i64 (n : Int)] w fun e w' => ∃ v, e = .returned v ∧ w'.ownsRow w.heap.size 9 1 v 0 [] ∧ Below w.heap.size w w' := by
  obtain ⟨i, hi, hz, hsi, hby⟩ := info_parts info_strG
  have hold : (Builtin.firstCells i.size 0 (.slice none 0 0)).run Tryz.prog w.drew = .ok #[] w.drew := run_firstCells_none w.drew i.size 0 0 0
  have hr : ∀ ty, (Builtin.append_ #[35, 3] ty #[.slice none 0 0, .int .i64 (n : Int)]).run Tryz.prog w =
      .ok (.slice (some ⟨w.heap.size, 0, none⟩) n (grownCap w n 0 9)) (w.drew.alloc (.cells (#[] ++ Builtin.zeroCells (Value.string .empty).cells n ++ Builtin.zeroCells (Value.string .empty).cells (grownCap w n 0 9 - n)) 9)) := fun ty => by
    have h := Lib.run_append_grow_zeros w 35 3 ty 9 i (.string .empty) .i64 .i64 Tryz.underlying35 Tryz.underlying3 hi hz none 0 0 [] hold n (by omega) (by omega) (by omega) (by omega)
      (by rw [hby]; omega)
      (by rw [Nat.zero_add]; exact growslice_fits (by omega) (by rw [hby]; omega))
    rw [Nat.zero_add] at h
    exact h
  have hGn : n ≤ grownCap w n 0 9 := grownCap_ge w _ _ _
  have hGm := grownCap_le_maxLen w n 0 9 (by unfold maxLen; omega)
  generalize grownCap w n 0 9 = G at *
  have OW : Hid ((w.drew.alloc (.cells (#[] ++ Builtin.zeroCells (Value.string .empty).cells n ++ Builtin.zeroCells (Value.string .empty).cells (G - n)) 9)).ownsRow w.heap.size 9 1 (.slice (some ⟨w.heap.size, 0, none⟩) 0 G) 0 []) := Lib.hid ⟨rfl, .inr ⟨w.heap.size, G, _, rfl, Nat.le_refl _, heap_alloc_new w.drew _, Nat.zero_le _, hGm, by
      have zc : ∀ k, (Builtin.zeroCells (Value.string .empty).cells k).size = k := fun k => by simp [Builtin.zeroCells, Value.cells]
      rw [Array.size_append, Array.size_append, zc, zc]; simp; omega, by simp⟩⟩
  have BL : Hid (Below w.heap.size w (w.drew.alloc (.cells (#[] ++ Builtin.zeroCells (Value.string .empty).cells n ++ Builtin.zeroCells (Value.string .empty).cells (G - n)) 9))) := Lib.hid (((Below.refl _ _).drew).alloc (Nat.le_refl _) _)
  have d1 : (0 : Int) < (n : Int) := by omega
  have G63 : G ≤ 9223372036854775807 := by unfold maxLen at hGm; omega
  generalize w.drew.alloc (.cells (#[] ++ Builtin.zeroCells (Value.string .empty).cells n ++ Builtin.zeroCells (Value.string .empty).cells (G - n)) 9) = w' at *
  clear hold hGm
  go_enter Tryz.func201, Tryz.ntmps201
  go_wp2_with (at_builtin; refine Lib.wpList_append_run _ rfl _ _ _ _ rfl _ _ rfl rfl _ _ (hr _) ?_)
  all_goals (go_ret; exact ⟨_, rfl, OW.out, BL.out⟩)
structure SV where
  A : Option Addr
  c : Nat
  l : List Tx
def svC (ms : List SV) : List Value := ms.map fun m => .slice m.A m.l.length m.c
def svT (ms : List SV) : List Tx := ms.flatMap (·.l)
theorem svT_take {ms : List SV} {k : Nat} (h : k < ms.length) : svT (ms.take (k + 1)) = svT (ms.take k) ++ ms[k].l := by
  unfold svT; rw [List.take_succ_eq_append_getElem h, List.flatMap_append, List.flatMap_singleton]
theorem sv_at {w : World} {A : Option Addr} {ms : List SV} (h : Rd w A (svC ms)) {k : Nat} (hk : k < ms.length) :
    ∃ b off, A = some ⟨b, off, none⟩ ∧ b < w.heap.size ∧ w.cell? ⟨b, off + k, none⟩ = some (.slice ms[k].A ms[k].l.length ms[k].c) := by
  obtain ⟨b, off, e, hb, hc⟩ := h (by unfold svC; rw [List.length_map]; omega)
  exact ⟨b, off, e, hb, hc k _ (by unfold svC; rw [List.getElem?_map, List.getElem?_eq_getElem hk]; rfl)⟩
theorem own_castG {w : World} {B size n n' : Nat} {e : TypeId} {v : Value} {X X' : List Value} (h : w.ownsRow B e size v n X) (hn : n = n') (hX : X = X') : w.ownsRow B e size v n' X' := by subst hn; subst hX; exact h
theorem concat_any (A : Option Addr) (n c : Nat) (ms : List SV) (w : World) (hn : n = ms.length) (hn1 : 0 < n) (hl : n ≤ 100) (h : Rd w A (svC ms)) (hm : ∀ m ∈ ms, Rd w m.A (strsC m.l) ∧ 0 < m.l.length) (ht : (svT ms).length ≤ 1000000) :
    Calls Tryz.prog 176 #[.slice A n c] w fun e w' => ∃ v, e = .returned v ∧ w'.ownsRow w.heap.size 9 1 v (svT ms).length (strsC (svT ms)) ∧ Below w.heap.size w w' := by
  have H := Lib.hid h
  have HN := Lib.hid hn
  have HM := Lib.hid hm
  have HT := Lib.hid ht
  have MO : Hid (∀ k, (svT (ms.take k)).length ≤ 1000000) := Lib.hid (fun k => by
    refine Nat.le_trans ?_ ht
    have e : svT ms = svT (ms.take k) ++ svT (ms.drop k) := by unfold svT; rw [← List.flatMap_append, List.take_append_drop]
    rw [e, List.length_append]; omega)
  have HB : Hid (Below w.heap.size w w) := Lib.hid (Below.refl _ _)
  clear h hn hm ht
  go_enter Tryz.func176, Tryz.ntmps176
  go_wp2_with fail
  go_loopw [3, 5, 11] (fun s3 s5 s11 wr => ∃ k : Nat, k ≤ n ∧ s11 = .int .i64 (k : Int) ∧ (∃ p, s5 = p) ∧ s3 = .int .i64 ((svT (ms.take k)).length : Int) ∧ Hid (Below w.heap.size w wr)) (fun _ _ i _ => n - (intOf i).toNat)
  case atStart => exact ⟨0, Nat.zero_le _, rfl, ⟨_, rfl⟩, rfl, HB⟩
  case round =>
    clear HB
    obtain ⟨k, hkn, rfl, ⟨p5, rfl⟩, rfl, BL⟩ := hrel
    by_cases hlt : k < n
    · have hkl : k < ms.length := by rw [← HN.out]; exact hlt
      have d1 : (k : Int) < (n : Int) := by omega
      have d2 : (0 : Int) ≤ (k : Int) := by omega
      obtain ⟨b, off, rfl, hbz, c0⟩ := sv_at (H.out.below BL.out) hkl
      have TK : Hid ((svT (ms.take (k + 1))).length = (svT (ms.take k)).length + ms[k].l.length) := Lib.hid (by rw [svT_take hkl, List.length_append])
      have M1 := MO.out (k + 1)
      rw [TK.out] at M1
      generalize ms[k].l.length = y at *
      generalize (svT (ms.take k)).length = x at *
      generalize ms[k].A = A1 at *
      generalize ms[k].c = q1 at *
      have k8 : IntKind.i64.wrap ((x : Int) + (y : Int)) = (x : Int) + (y : Int) := IntWalk.i64_in _ (by omega)
      have d3 : ¬ ((x : Int) + (y : Int)) < 0 := by omega
      go_wp2_with fail
      exact ⟨⟨k + 1, by omega, by go_num, ⟨_, rfl⟩, by rw [TK.out]; go_num, BL⟩, by simp [intOf]; omega⟩
    · have d1 : ¬ (k : Int) < (n : Int) := by omega
      have TT : Hid (ms.take k = ms) := Lib.hid (List.take_of_length_le (by rw [← HN.out]; omega))
      rw [TT.out]
      have T0 : 0 < (svT ms).length := by
        have h0 : 0 < ms.length := by rw [← HN.out]; exact hn1
        have := (HM.out ms[0] (List.getElem_mem h0)).2
        have e : svT ms = ms[0].l ++ svT (ms.drop 1) := by
          cases ms with
          | nil => exact absurd h0 (by simp)
          | cons a r => rfl
        rw [e, List.length_append]; omega
      have GA := Lib.hid (grow_nil (svT ms).length wr T0 HT.out)
      generalize hS : (svT ms).length = S at *
      clear TT
      go_wp2_with fail
      refine GA.out.mono ?_
      rintro e u1 ⟨v, rfl, ho, b1⟩
      have bw := BL.out.size
      have OW : Hid (u1.ownsRow w.heap.size 9 1 v (svT (ms.take 0)).length (strsC (svT (ms.take 0)))) := Lib.hid (own_base ho bw)
      have B1 := Lib.hid (BL.out.trans (b1.mono bw))
      clear ho b1 GA
      go_wp2_with fail
      go_loopw [6, 8, 27] (fun s6 s8 s27 wr => ∃ k : Nat, k ≤ n ∧ s27 = .int .i64 (k : Int) ∧ (∃ p, s8 = p) ∧ Hid (wr.ownsRow w.heap.size 9 1 s6 (svT (ms.take k)).length (strsC (svT (ms.take k)))) ∧ Hid (Below w.heap.size w wr)) (fun _ _ i _ => n - (intOf i).toNat)
      case atStart => exact ⟨0, Nat.zero_le _, rfl, ⟨_, rfl⟩, OW, B1⟩
      case round =>
        clear OW B1 BL
        obtain ⟨k, hkn, rfl, ⟨p8, rfl⟩, OW, BL⟩ := hrel
        by_cases hlt : k < n
        · have hkl : k < ms.length := by rw [← HN.out]; exact hlt
          have d1 : (k : Int) < (n : Int) := by omega
          have d2 : (0 : Int) ≤ (k : Int) := by omega
          obtain ⟨b, off, rfl, hbz, c0⟩ := sv_at (H.out.below BL.out) hkl
          have TK : Hid (svT (ms.take (k + 1)) = svT (ms.take k) ++ ms[k].l) := Lib.hid (svT_take hkl)
          have M1 := MO.out (k + 1)
          rw [TK.out, List.length_append] at M1
          obtain ⟨hr, hp⟩ := HM.out ms[k] (List.getElem_mem hkl)
          have HR := Lib.hid (hr.below BL.out)
          generalize svT (ms.take k) = L at *
          generalize ms[k] = x at *
          obtain ⟨A1, q1, l1⟩ := x
          dsimp only at c0 TK M1 HR hp
          have bz := BL.out.size
          clear hr
          go_wp2_with (at_builtin; refine wpList_appLG rfl (.tmp 31) (.tmp 32) 35 rfl Tryz.underlying35 info_strG rfl w.heap.size _ L.length (strsC L) A1 l1.length q1 (strsC l1) (strs_one l1) rfl rfl OW.out HR.out (List.length_map _) hp bz (by omega) (by omega) ?_; intro A7 c7 w7 ho7 hb7)
          refine ⟨⟨k + 1, by omega, by go_num, ⟨_, rfl⟩, ?_, Lib.hid (BL.out.trans hb7)⟩, by simp [intOf]; omega⟩
          exact Lib.hid (own_castG ho7 (by rw [TK.out, List.length_append]) (by rw [TK.out, strsC_app]))
        · have d1 : ¬ (k : Int) < (n : Int) := by omega
          have TT : Hid (ms.take k = ms) := Lib.hid (List.take_of_length_le (by rw [← HN.out]; omega))
          rw [TT.out, hS] at OW
          go_wp2_with fail
          go_ret
          exact ⟨_, rfl, OW.out, BL.out⟩
end Go.Proofs.YtniklmikdkjgiaaGreatDoor
namespace Go.Proofs.YtniklmikdkjgiaaGreatDoor
open Go.RowKit
def lineW (e : Ed) : List Tx :=
  if e.op = 2 then [[109, 111, 118, 101], e.id, Dg.dec e.x.toNat, Dg.dec e.y.toNat]
  else if e.op = 3 then [[116, 97, 103], e.id, e.key, quoteF e.value]
  else if e.op = 4 then [[114, 101, 102, 115], e.id] ++ e.refs
  else if e.op = 5 then [[100, 114, 111, 112], e.id]
  else if e.op = 6 then [[115, 112, 108, 105, 116], e.id, e.node, e.other]
  else [[106, 111, 105, 110], e.id, e.other]
def lineF (e : Ed) : Tx × Nat := if e.op = 1 then ([112, 117, 116, 32] ++ (objTextF e.ob).1 ++ [10], (objTextF e.ob).2) else (joinL (lineW e) [32] ++ [10], 0)
theorem limT_len (t : Tx) : (limT t).1.length ≤ 20000 := by
  unfold limT; split
  · exact Nat.zero_le _
  · exact Nat.le_of_not_lt (by assumption)
theorem objText_len (o : At.Ob) : (objTextF o).1.length ≤ 20000 := by
  unfold objTextF
  repeat' split
  all_goals first | exact limT_len _ | exact Nat.zero_le _
theorem okE_2 {e : Ed} (h : okE e = true) (h1 : e.op = 2) : e.id.length ≤ 24 ∧ ∃ X Y : Nat, e.x = X ∧ e.y = Y ∧ X < 1048576 ∧ Y < 1048576 := by
  unfold okE at h
  rw [if_neg (by omega), if_pos h1] at h
  simp only [Bool.and_eq_true, decide_eq_true_eq] at h
  obtain ⟨⟨a, b⟩, c⟩ := h
  exact ⟨nameB_len a, e.x.toNat, e.y.toNat, by omega, by omega, by omega, by omega⟩
theorem okE_3 {e : Ed} (h : okE e = true) (h1 : e.op = 3) : e.id.length ≤ 24 ∧ e.key.length ≤ 24 ∧ e.value.length ≤ 200 := by
  unfold okE at h
  rw [if_neg (by omega), if_neg (by omega), if_pos h1] at h
  simp only [Bool.and_eq_true, decide_eq_true_eq] at h
  exact ⟨nameB_len h.1.1, nameB_len h.1.2, h.2⟩
theorem okE_4 {e : Ed} (h : okE e = true) (h1 : e.op = 4) : e.id.length ≤ 24 ∧ 0 < e.refs.length ∧ e.refs.length ≤ 2000 ∧ ∀ s ∈ e.refs, s.length ≤ 24 := by
  unfold okE at h
  rw [if_neg (by omega), if_neg (by omega), if_neg (by omega), if_pos h1] at h
  simp only [Bool.and_eq_true, decide_eq_true_eq, List.all_eq_true] at h
  exact ⟨nameB_len h.1.1.1, h.1.1.2, h.1.2, fun s hs => nameB_len (h.2 s hs)⟩
theorem okE_5 {e : Ed} (h : okE e = true) (h1 : e.op = 5) : e.id.length ≤ 24 := by
  unfold okE at h
  rw [if_neg (by omega), if_neg (by omega), if_neg (by omega), if_neg (by omega), if_pos h1] at h
  exact nameB_len h
theorem okE_6 {e : Ed} (h : okE e = true) (h1 : e.op = 6) : e.id.length ≤ 24 ∧ e.node.length ≤ 24 ∧ e.other.length ≤ 24 := by
  unfold okE at h
  rw [if_neg (by omega), if_neg (by omega), if_neg (by omega), if_neg (by omega), if_neg (by omega), if_pos h1] at h
  simp only [Bool.and_eq_true] at h
  exact ⟨nameB_len h.1, nameB_len h.2.1, nameB_len h.2.2⟩
theorem okE_7 {e : Ed} (h : okE e = true) (g1 : ¬ e.op = 1) (g2 : ¬ e.op = 2) (g3 : ¬ e.op = 3) (g4 : ¬ e.op = 4) (g5 : ¬ e.op = 5) (g6 : ¬ e.op = 6) : e.id.length ≤ 24 ∧ e.other.length ≤ 24 := by
  unfold okE at h
  rw [if_neg g1, if_neg g2, if_neg g3, if_neg g4, if_neg g5, if_neg g6] at h
  split at h
  · simp only [Bool.and_eq_true] at h
    exact ⟨nameB_len h.1, nameB_len h.2⟩
  · cases h
theorem line_any (e : EV) (w : World) (h : EvIs w e) (hs : EdSz e.c) (hc : EvCap e) (hok : okE e.c = true) (ht : Tab w) :
    Calls Tryz.prog 148 #[evA e] w (TxtE w (lineF e.c)) := by
  obtain ⟨⟨A1, c1, v1, r1⟩, ho1⟩ := id h
  obtain ⟨⟨A3, c3, v3, -⟩, ⟨A4, c4, v4, -⟩⟩ := id ho1
  have hv : evA e = .agg #[.int .i64 e.op, .string (mkB e.id), .string (mkB e.other), .string (mkB e.node), .int .i64 e.x, .int .i64 e.y, .string (mkB e.key), .string (mkB e.value), .slice A1 e.refs.length c1, .string (mkB e.o.c.id), .int .i64 e.o.c.kind, .int .i64 e.o.c.x, .int .i64 e.o.c.y, .slice A3 e.o.c.refs.length c3, .slice A4 e.o.c.tags.length c4] := by unfold evA evL; rw [v1, v3, v4]
  have hro : roA e.o = .agg #[.string (mkB e.o.c.id), .int .i64 e.o.c.kind, .int .i64 e.o.c.x, .int .i64 e.o.c.y, .slice A3 e.o.c.refs.length c3, .slice A4 e.o.c.tags.length c4] := by unfold roA; rw [v3, v4]
  have hc1 : e.refs.length ≤ c1 := hc.1 _ _ _ v1
  obtain ⟨bx, hbx⟩ : ∃ bx, w.heap.size = bx := ⟨_, rfl⟩
  obtain ⟨W, hW⟩ : ∃ W, W = w.alloc (.cells #[.int .i64 e.op, .string (mkB e.id), .string (mkB e.other), .string (mkB e.node), .int .i64 e.x, .int .i64 e.y, .string (mkB e.key), .string (mkB e.value), .slice A1 e.refs.length c1, .string (mkB e.o.c.id), .int .i64 e.o.c.kind, .int .i64 e.o.c.x, .int .i64 e.o.c.y, .slice A3 e.o.c.refs.length c3, .slice A4 e.o.c.tags.length c4] 93) := ⟨_, rfl⟩
  have HX : Hid (W.heap[bx]? = some (.cells #[.int .i64 e.op, .string (mkB e.id), .string (mkB e.other), .string (mkB e.node), .int .i64 e.x, .int .i64 e.y, .string (mkB e.key), .string (mkB e.value), .slice A1 e.refs.length c1, .string (mkB e.o.c.id), .int .i64 e.o.c.kind, .int .i64 e.o.c.x, .int .i64 e.o.c.y, .slice A3 e.o.c.refs.length c3, .slice A4 e.o.c.tags.length c4] 93 (0, 0))) := Lib.hid (by rw [hW, ← hbx]; exact heap_alloc_new w _)
  have HZ : bx < W.heap.size := by rw [hW, ← hbx]; simp
  have BH : Hid (Below w.heap.size w W) := Lib.hid (by rw [hW]; exact (Below.refl _ _).alloc (Nat.le_refl _) _)
  have BA : Hid (∀ u, OldB W u → Below w.heap.size w u) := Lib.hid (fun u hu => BH.out.trans (Below.mono hu BH.out.size))
  have kx : ∀ (i : Nat) v, (#[.int .i64 e.op, .string (mkB e.id), .string (mkB e.other), .string (mkB e.node), .int .i64 e.x, .int .i64 e.y, .string (mkB e.key), .string (mkB e.value), .slice A1 e.refs.length c1, .string (mkB e.o.c.id), .int .i64 e.o.c.kind, .int .i64 e.o.c.x, .int .i64 e.o.c.y, .slice A3 e.o.c.refs.length c3, .slice A4 e.o.c.tags.length c4] : Array Value)[i]? = some v → ∀ u, OldB W u → u.cell? ⟨bx, i, none⟩ = some v := fun i v hv u hu => by
    rw [Lib.cell_of_heap ((hu.block bx HZ).trans HX.out)]; exact hv
  have k0 := kx 0 _ rfl
  have k1 := kx 1 _ rfl
  have k2 := kx 2 _ rfl
  have k3 := kx 3 _ rfl
  have k4 := kx 4 _ rfl
  have k5 := kx 5 _ rfl
  have k6 := kx 6 _ rfl
  have k7 := kx 7 _ rfl
  have k8 := kx 8 _ rfl
  have k9 := kx 9 _ rfl
  have k10 := kx 10 _ rfl
  have k11 := kx 11 _ rfl
  have k12 := kx 12 _ rfl
  have k13 := kx 13 _ rfl
  have k14 := kx 14 _ rfl
  clear kx
  have OA : Hid (∀ u, OldB W u → Calls Tryz.prog 174 #[roA e.o] u (TxtE u (objTextF e.o.c))) := Lib.hid (fun u hu => objtext_any e.o u (ho1.below (BA.out u hu)) hs.ob hs.obr hc.2 (ht.keep (BA.out u hu)))
  rw [hro] at OA
  have IT : Hid (∀ (k : Nat) u, k ≤ 9223372036854775807 → OldB W u → Calls Tryz.prog 113 #[.int .i64 (k : Int)] u fun e w' => e = .returned (.string (mkB (Dg.dec k))) ∧ Below u.heap.size u w') := Lib.hid (fun k u hk hu => itoa_any k u hk (ht.keep (BA.out u hu)))
  have JA : Hid (∀ (L : List Tx) (A : Option Addr) (n c : Nat) u, n = L.length → L.length ≤ c → L.length ≤ 1000000 → (joinL L [32]).length ≤ 1000000 → Rd u A (strsC L) → Calls Tryz.prog 177 #[.slice A n c, .string ⟨#[32]⟩] u fun e w' => e = .returned (.string (mkB (joinL L [32]))) ∧ Below u.heap.size u w') := Lib.hid (fun L A n c u hn hc hl hj hr => joinT_any A n c L [32] u hn hr hc hl (by omega))
  have QA := Lib.hid (fun u => quote_any e.value u (Nat.le_trans hs.value (by decide)))
  have R1 := Lib.hid r1
  have HC := Lib.hid hc1
  have OK := Lib.hid hok
  have SW : OldB W W := Below.refl _ _
  rw [hv]
  clear r1 h ho1 hv hro hc hc1 hok ht HZ hs v1 v3 v4
  go_enter Tryz.func148, Tryz.ntmps148
  go_upto_region 1 with fail
  try rw [hbx]
  rw [← hW]
  clear hW
  by_cases h1 : e.op = 1
  · skip
    have e1 : (e.op == 1) = true := by rw [h1]; rfl
    have G1 := Lib.hid h1
    clear h1
    have LF : Hid (lineF e.c = ([112, 117, 116, 32] ++ (objTextF e.o.c).1 ++ [10], (objTextF e.o.c).2)) := Lib.hid (if_pos (show e.c.op = 1 from G1.out))
    have TL := objText_len e.o.c
    generalize objTextF e.o.c = r at *
    obtain ⟨t, er⟩ := r
    dsimp only at LF TL
    have a1 : ∀ W : World, (Op.stringOp .add ⟨#[112, 117, 116, 32]⟩ (mkB t)).run Tryz.prog W = .ok (.string (mkB (112 :: 117 :: 116 :: 32 :: t))) W := add_str [112, 117, 116, 32] t (by simp; omega)
    obtain ⟨T2, hT⟩ : ∃ T2, [112, 117, 116, 32] ++ t ++ [10] = T2 := ⟨_, rfl⟩
    have a2 : ∀ W : World, (Op.stringOp .add (mkB (112 :: 117 :: 116 :: 32 :: t)) ⟨#[10]⟩).run Tryz.prog W = .ok (.string (mkB T2)) W := by rw [← hT]; exact add_str ([112, 117, 116, 32] ++ t) [10] (by simp; omega)
    rw [hT] at LF
    clear hT TL
    go_wp2_with fail
    (with_reducible refine (OA.out W SW).mono ?_)
    rintro en u1 ⟨rfl, d1⟩
    have DD := Lib.hid (BA.out _ (show OldB W u1 from d1))
    clear d1
    go_wp2_with fail
    go_ret2
    exact ⟨by rw [LF.out]; rfl, DD.out⟩
  have G1 := Lib.hid h1
  clear h1
  by_cases h2 : e.op = 2
  · skip
    have e1 : (e.op == 1) = false := by simpa using G1.out
    have e2 : (e.op == 2) = true := by rw [h2]; rfl
    have G2 := Lib.hid h2
    clear h2
    obtain ⟨il, X, Y, hX, hY, xb, yb⟩ := okE_2 OK.out G2.out
    have hX2 : e.x = (X : Int) := hX
    have hY2 : e.y = (Y : Int) := hY
    have LW : Hid (lineW e.c = [[109, 111, 118, 101], e.id, Dg.dec X, Dg.dec Y]) := Lib.hid (by unfold lineW; rw [if_pos (show e.c.op = 2 from G2.out), hX, hY]; rfl)
    rw [hX2] at k4; rw [hY2] at k5
    have DX := dec_len 20 X (by omega) (by decide)
    have DY := dec_len 20 Y (by omega) (by decide)
    have IX := Lib.hid (fun u hu => IT.out X u (by omega) hu)
    have IY := Lib.hid (fun u hu => IT.out Y u (by omega) hu)
    generalize Dg.dec X = dx at *
    generalize Dg.dec Y = dy at *
    have JL0 : Hid ((joinL [[109, 111, 118, 101], e.id, dx, dy] [32]).length ≤ 100000) := Lib.hid (Nat.le_trans (join_len [32] 24 _ (by intro t ht; simp at ht; rcases ht with rfl | rfl | rfl | rfl; decide; exact il; omega; omega)) (by simp))
    clear hX hY hX2 hY2 xb yb il DX DY
    go_upto_region 8 with fail
    (refine wp_region_noPanic ?_; refine wp_region_held_drew (S := (OldB W)) (by kernel_rfl) ?_ (fun hHeld => ?_); exact Below.drew SW)
    generalize W.drew = ud at *
    clear SW
    (refine tkW 0 ?_; try simp only [gmS])
    (refine tkW 1 ?_; try simp only [gmS])
    (refine tkW 2 ?_; try simp only [gmS])
    (refine tkW 3 ?_; try simp only [gmS])
    (refine tkW 4 ?_; try simp only [gmS])
    (refine tkW 6 ?_; try simp only [gmS])
    (refine tkW 7 ?_; try simp only [gmS])
    (refine tkW 8 ?_; try simp only [gmS])
    (refine rdW 5 (fun K hK => ?_))
    go_simp
    refine (IX.out _ hHeld).mono ?_
    rintro en u2 ⟨rfl, d2⟩
    (refine hK.out _ _ (OldB.then hHeld d2) (fun hHeld2 => ?_); clear hK K hHeld; have hHeld := hHeld2; clear hHeld2; try simp only [gmS])
    (refine rdW 9 (fun K hK => ?_))
    go_simp
    refine (IY.out _ hHeld).mono ?_
    rintro en u3 ⟨rfl, d3⟩
    (refine hK.out _ _ (OldB.then hHeld d3) (fun hHeld2 => ?_); clear hK K hHeld; have hHeld := hHeld2; clear hHeld2; try simp only [gmS])
    (refine rdW 10 (fun K hK => ?_))
    go_simp
    have RD : Hid (Rd (u3.alloc (.cells #[.string ⟨#[109, 111, 118, 101]⟩, .string (mkB e.id), .string (mkB dx), .string (mkB dy)] 9)) (some ⟨u3.heap.size, 0, none⟩) (strsC [[109, 111, 118, 101], e.id, dx, dy])) := Lib.hid (Rd.of_row (heap_alloc_new _ _) (List.prefix_refl _))
    (refine hK.out _ _ (OldB.then hHeld ((Below.refl _ _).alloc (Nat.le_refl _) _)) (fun hHeld2 => ?_); clear hK K hHeld; have hHeld := hHeld2; clear hHeld2; try simp only [gmS])
    (refine tkW 11 ?_; try simp only [gmS])
    have SS := Lib.hid hHeld
    (refine wpAnyH_done (by kernel_rfl) ?_ _; refine NoPanic.normal ?_)
    have CP : Hid (([[109, 111, 118, 101], e.id, dx, dy] : List Tx).length ≤ 4) := Lib.hid (Nat.le_refl _)
    have LF : Hid (lineF e.c = (joinL ([[109, 111, 118, 101], e.id, dx, dy]) [32] ++ [10], 0)) := Lib.hid (by unfold lineF; rw [if_neg (show ¬ e.c.op = 1 from G1.out), LW.out])
    have JL : Hid ((joinL ([[109, 111, 118, 101], e.id, dx, dy]) [32]).length ≤ 100000) := Lib.hid (JL0.out)
    have JJ := Lib.hid (JA.out ([[109, 111, 118, 101], e.id, dx, dy]) _ (4) _ _ (by rfl) CP.out (by simp) (by have := JL.out; omega) RD.out)
    have a1 : ∀ W : World, (Op.stringOp .add (mkB (joinL ([[109, 111, 118, 101], e.id, dx, dy]) [32])) ⟨#[10]⟩).run Tryz.prog W = .ok (.string (mkB (joinL ([[109, 111, 118, 101], e.id, dx, dy]) [32] ++ [10]))) W := add_str _ [10] (by have := JL.out; simp; omega)
    generalize joinL ([[109, 111, 118, 101], e.id, dx, dy]) [32] = J at *
    go_wp2_with fail
    (with_reducible refine JJ.out.mono ?_)
    rintro en u4 ⟨rfl, d4⟩
    have DD := Lib.hid (BA.out _ (OldB.then SS.out d4))
    clear d4 JJ
    go_wp2_with fail
    go_ret2
    exact ⟨by rw [LF.out]; rfl, DD.out⟩
  have G2 := Lib.hid h2
  clear h2
  by_cases h3 : e.op = 3
  · skip
    have e1 : (e.op == 1) = false := by simpa using G1.out
    have e2 : (e.op == 2) = false := by simpa using G2.out
    have e3 : (e.op == 3) = true := by rw [h3]; rfl
    have G3 := Lib.hid h3
    clear h3
    obtain ⟨il, kl, vl⟩ := okE_3 OK.out G3.out
    have il : e.id.length ≤ 24 := il
    have kl : e.key.length ≤ 24 := kl
    have vl : e.value.length ≤ 200 := vl
    have ql := quoteF_len e.value
    have LW : Hid (lineW e.c = [[116, 97, 103], e.id, e.key, quoteF e.value]) := Lib.hid (by unfold lineW; rw [if_neg (show ¬ e.c.op = 2 from G2.out), if_pos (show e.c.op = 3 from G3.out)]; rfl)
    generalize quoteF e.value = q at *
    have JL0 : Hid ((joinL [[116, 97, 103], e.id, e.key, q] [32]).length ≤ 100000) := Lib.hid (Nat.le_trans (join_len [32] 500 _ (by intro t ht; simp at ht; rcases ht with rfl | rfl | rfl | rfl; decide; omega; omega; omega)) (by simp))
    clear il kl vl ql
    go_upto_region 10 with fail
    (refine wp_region_noPanic ?_; refine wp_region_held_drew (S := (OldB W)) (by kernel_rfl) ?_ (fun hHeld => ?_); exact Below.drew SW)
    generalize W.drew = ud at *
    clear SW
    (refine tkW 0 ?_; try simp only [gmS])
    (refine tkW 1 ?_; try simp only [gmS])
    (refine tkW 2 ?_; try simp only [gmS])
    (refine tkW 3 ?_; try simp only [gmS])
    (refine tkW 4 ?_; try simp only [gmS])
    (refine tkW 5 ?_; try simp only [gmS])
    (refine rdW 6 (fun K hK => ?_))
    go_simp
    refine (QA.out _).mono ?_
    rintro en u5 ⟨rfl, d5⟩
    (refine hK.out _ _ (OldB.then hHeld d5) (fun hHeld2 => ?_); clear hK K hHeld; have hHeld := hHeld2; clear hHeld2; try simp only [gmS])
    (refine rdW 7 (fun K hK => ?_))
    go_simp
    have RD : Hid (Rd (u5.alloc (.cells #[.string ⟨#[116, 97, 103]⟩, .string (mkB e.id), .string (mkB e.key), .string (mkB q)] 9)) (some ⟨u5.heap.size, 0, none⟩) (strsC [[116, 97, 103], e.id, e.key, q])) := Lib.hid (Rd.of_row (heap_alloc_new _ _) (List.prefix_refl _))
    (refine hK.out _ _ (OldB.then hHeld ((Below.refl _ _).alloc (Nat.le_refl _) _)) (fun hHeld2 => ?_); clear hK K hHeld; have hHeld := hHeld2; clear hHeld2; try simp only [gmS])
    (refine tkW 8 ?_; try simp only [gmS])
    have SS := Lib.hid hHeld
    (refine wpAnyH_done (by kernel_rfl) ?_ _; refine NoPanic.normal ?_)
    have CP : Hid (([[116, 97, 103], e.id, e.key, q] : List Tx).length ≤ 4) := Lib.hid (Nat.le_refl _)
    have LF : Hid (lineF e.c = (joinL ([[116, 97, 103], e.id, e.key, q]) [32] ++ [10], 0)) := Lib.hid (by unfold lineF; rw [if_neg (show ¬ e.c.op = 1 from G1.out), LW.out])
    have JL : Hid ((joinL ([[116, 97, 103], e.id, e.key, q]) [32]).length ≤ 100000) := Lib.hid (JL0.out)
    have JJ := Lib.hid (JA.out ([[116, 97, 103], e.id, e.key, q]) _ (4) _ _ (by rfl) CP.out (by simp) (by have := JL.out; omega) RD.out)
    have a1 : ∀ W : World, (Op.stringOp .add (mkB (joinL ([[116, 97, 103], e.id, e.key, q]) [32])) ⟨#[10]⟩).run Tryz.prog W = .ok (.string (mkB (joinL ([[116, 97, 103], e.id, e.key, q]) [32] ++ [10]))) W := add_str _ [10] (by have := JL.out; simp; omega)
    generalize joinL ([[116, 97, 103], e.id, e.key, q]) [32] = J at *
    go_wp2_with fail
    (with_reducible refine JJ.out.mono ?_)
    rintro en u6 ⟨rfl, d6⟩
    have DD := Lib.hid (BA.out _ (OldB.then SS.out d6))
    clear d6 JJ
    go_wp2_with fail
    go_ret2
    exact ⟨by rw [LF.out]; rfl, DD.out⟩
  have G3 := Lib.hid h3
  clear h3
  by_cases h4 : e.op = 4
  · skip
    have e1 : (e.op == 1) = false := by simpa using G1.out
    have e2 : (e.op == 2) = false := by simpa using G2.out
    have e3 : (e.op == 3) = false := by simpa using G3.out
    have e4 : (e.op == 4) = true := by rw [h4]; rfl
    have G4 := Lib.hid h4
    clear h4
    obtain ⟨il, rp, rl, rs⟩ := okE_4 OK.out G4.out
    have il : e.id.length ≤ 24 := il
    have rp : 0 < e.refs.length := rp
    have rl : e.refs.length ≤ 2000 := rl
    have rs : ∀ s ∈ e.refs, s.length ≤ 24 := rs
    have LW : Hid (lineW e.c = [[114, 101, 102, 115], e.id] ++ e.refs) := Lib.hid (by unfold lineW; rw [if_neg (show ¬ e.c.op = 2 from G2.out), if_neg (show ¬ e.c.op = 3 from G3.out), if_pos (show e.c.op = 4 from G4.out)]; rfl)
    have LL : Hid (([[114, 101, 102, 115], e.id] ++ e.refs).length ≤ 2002) := Lib.hid (by simp; omega)
    have JL0 : Hid ((joinL ([[114, 101, 102, 115], e.id] ++ e.refs) [32]).length ≤ 100000) := Lib.hid (Nat.le_trans (join_len [32] 24 _ (by intro t ht; simp at ht; rcases ht with rfl | rfl | ht; decide; exact il; exact rs t ht)) (Nat.le_trans (Nat.mul_le_mul_right _ LL.out) (by decide)))
    obtain ⟨X, hX⟩ : ∃ X, X = (W.alloc (.cells #[.string ⟨#[114, 101, 102, 115]⟩, .string (mkB e.id)] 9)).alloc (.cells #[.slice (some ⟨W.heap.size, 0, none⟩) 2 2, .slice A1 e.refs.length c1] 35) := ⟨_, rfl⟩
    have S1 : OldB W (W.alloc (.cells #[.string ⟨#[114, 101, 102, 115]⟩, .string (mkB e.id)] 9)) := (Below.refl _ _).alloc (Nat.le_refl _) _
    have XS : OldB W X := by rw [hX]; exact ((Below.refl _ _).alloc (Nat.le_refl _) _).alloc (by simp) _
    have RX : Rd X (some ⟨W.heap.size, 0, none⟩) (strsC [[114, 101, 102, 115], e.id]) := by rw [hX]; exact Rd.of_row ((alloc_old _ _ (by simp)).trans (heap_alloc_new W _)) (List.prefix_refl _)
    have CX := concat_any (some ⟨W.heap.size + 1, 0, none⟩) 2 2 [⟨some ⟨W.heap.size, 0, none⟩, 2, [[114, 101, 102, 115], e.id]⟩, ⟨A1, c1, e.refs⟩] X rfl (by decide) (by decide) (by rw [hX]; exact Rd.of_row (alloc_new' _ _ _ (by simp)) (List.prefix_refl _)) (by intro m hm; simp at hm; rcases hm with rfl | rfl; exact ⟨RX, by simp⟩; exact ⟨R1.out.below (BA.out _ XS), rp⟩) (by have := LL.out; simp [svT] at this ⊢; omega)
    rw [show svT [⟨some ⟨W.heap.size, 0, none⟩, 2, [[114, 101, 102, 115], e.id]⟩, ⟨A1, c1, e.refs⟩] = [[114, 101, 102, 115], e.id] ++ e.refs by simp [svT]] at CX
    have CC := Lib.hid CX
    have XH := Lib.hid XS
    have SH := Lib.hid SW
    clear CX XS RX il rp rl rs
    generalize [[114, 101, 102, 115], e.id] ++ e.refs = L at LW LL JL0 CC
    go_wp2_with fail
    rw [← hX]
    clear hX
    (with_reducible refine CC.out.mono ?_)
    rintro en u7 ⟨v, rfl, ho, d7⟩
    obtain ⟨A9, c9, rfl, rd9, hle⟩ := own_slG ho
    have RD := Lib.hid rd9
    have SS := Lib.hid (OldB.then XH.out d7)
    have CP := Lib.hid hle
    clear ho rd9 hle d7 CC XH
    have LF : Hid (lineF e.c = (joinL (L) [32] ++ [10], 0)) := Lib.hid (by unfold lineF; rw [if_neg (show ¬ e.c.op = 1 from G1.out), LW.out])
    have JL : Hid ((joinL (L) [32]).length ≤ 100000) := Lib.hid (JL0.out)
    have JJ := Lib.hid (JA.out (L) _ (L.length) _ _ (by rfl) CP.out (by have := LL.out; omega) (by have := JL.out; omega) RD.out)
    have a1 : ∀ W : World, (Op.stringOp .add (mkB (joinL (L) [32])) ⟨#[10]⟩).run Tryz.prog W = .ok (.string (mkB (joinL (L) [32] ++ [10]))) W := add_str _ [10] (by have := JL.out; simp; omega)
    generalize joinL (L) [32] = J at *
    go_wp2_with fail
    (with_reducible refine JJ.out.mono ?_)
    rintro en u8 ⟨rfl, d8⟩
    have DD := Lib.hid (BA.out _ (OldB.then SS.out d8))
    clear d8 JJ
    go_wp2_with fail
    go_ret2
    exact ⟨by rw [LF.out]; rfl, DD.out⟩
  have G4 := Lib.hid h4
  clear h4
  by_cases h5 : e.op = 5
  · skip
    have e1 : (e.op == 1) = false := by simpa using G1.out
    have e2 : (e.op == 2) = false := by simpa using G2.out
    have e3 : (e.op == 3) = false := by simpa using G3.out
    have e4 : (e.op == 4) = false := by simpa using G4.out
    have e5 : (e.op == 5) = true := by rw [h5]; rfl
    have G5 := Lib.hid h5
    clear h5
    have il : e.id.length ≤ 24 := okE_5 OK.out G5.out
    have JL0 : Hid ((joinL [[100, 114, 111, 112], e.id] [32]).length ≤ 100000) := Lib.hid (Nat.le_trans (join_len [32] 24 _ (by intro t ht; simp at ht; rcases ht with rfl | rfl; decide; exact il)) (by simp))
    clear il
    obtain ⟨X, hX⟩ : ∃ X, X = W.alloc (.cells #[.string ⟨#[100, 114, 111, 112]⟩, .string (mkB e.id)] 9) := ⟨_, rfl⟩
    have SS : Hid (OldB W X) := Lib.hid (by rw [hX]; exact (Below.refl _ _).alloc (Nat.le_refl _) _)
    have RD : Hid (Rd X (some ⟨W.heap.size, 0, none⟩) (strsC [[100, 114, 111, 112], e.id])) := Lib.hid (by rw [hX]; exact Rd.of_row (heap_alloc_new _ _) (List.prefix_refl _))
    have CP : Hid (([[100, 114, 111, 112], e.id] : List Tx).length ≤ 2) := Lib.hid (Nat.le_refl _)
    go_upto_region 17 with fail
    rw [← hX]
    clear hX SW
    have LF : Hid (lineF e.c = (joinL ([[100, 114, 111, 112], e.id]) [32] ++ [10], 0)) := Lib.hid (by unfold lineF; rw [if_neg (show ¬ e.c.op = 1 from G1.out)]; unfold lineW; rw [if_neg (show ¬ e.c.op = 2 from G2.out), if_neg (show ¬ e.c.op = 3 from G3.out), if_neg (show ¬ e.c.op = 4 from G4.out), if_pos (show e.c.op = 5 from G5.out)]; rfl)
    have JL : Hid ((joinL ([[100, 114, 111, 112], e.id]) [32]).length ≤ 100000) := Lib.hid (JL0.out)
    have JJ := Lib.hid (JA.out ([[100, 114, 111, 112], e.id]) _ (2) _ _ (by rfl) CP.out (by simp) (by have := JL.out; omega) RD.out)
    have a1 : ∀ W : World, (Op.stringOp .add (mkB (joinL ([[100, 114, 111, 112], e.id]) [32])) ⟨#[10]⟩).run Tryz.prog W = .ok (.string (mkB (joinL ([[100, 114, 111, 112], e.id]) [32] ++ [10]))) W := add_str _ [10] (by have := JL.out; simp; omega)
    generalize joinL ([[100, 114, 111, 112], e.id]) [32] = J at *
    go_wp2_with fail
    (with_reducible refine JJ.out.mono ?_)
    rintro en u9 ⟨rfl, d9⟩
    have DD := Lib.hid (BA.out _ (OldB.then SS.out d9))
    clear d9 JJ
    go_wp2_with fail
    go_ret2
    exact ⟨by rw [LF.out]; rfl, DD.out⟩
  have G5 := Lib.hid h5
  clear h5
  by_cases h6 : e.op = 6
  · skip
    have e1 : (e.op == 1) = false := by simpa using G1.out
    have e2 : (e.op == 2) = false := by simpa using G2.out
    have e3 : (e.op == 3) = false := by simpa using G3.out
    have e4 : (e.op == 4) = false := by simpa using G4.out
    have e5 : (e.op == 5) = false := by simpa using G5.out
    have e6 : (e.op == 6) = true := by rw [h6]; rfl
    have G6 := Lib.hid h6
    clear h6
    obtain ⟨il, nl, ol⟩ := okE_6 OK.out G6.out
    have JL0 : Hid ((joinL [[115, 112, 108, 105, 116], e.id, e.node, e.other] [32]).length ≤ 100000) := Lib.hid (Nat.le_trans (join_len [32] 24 _ (by intro t ht; simp at ht; rcases ht with rfl | rfl | rfl | rfl; decide; exact il; exact nl; exact ol)) (by simp))
    clear il nl ol
    obtain ⟨X, hX⟩ : ∃ X, X = W.alloc (.cells #[.string ⟨#[115, 112, 108, 105, 116]⟩, .string (mkB e.id), .string (mkB e.node), .string (mkB e.other)] 9) := ⟨_, rfl⟩
    have SS : Hid (OldB W X) := Lib.hid (by rw [hX]; exact (Below.refl _ _).alloc (Nat.le_refl _) _)
    have RD : Hid (Rd X (some ⟨W.heap.size, 0, none⟩) (strsC [[115, 112, 108, 105, 116], e.id, e.node, e.other])) := Lib.hid (by rw [hX]; exact Rd.of_row (heap_alloc_new _ _) (List.prefix_refl _))
    have CP : Hid (([[115, 112, 108, 105, 116], e.id, e.node, e.other] : List Tx).length ≤ 4) := Lib.hid (Nat.le_refl _)
    go_upto_region 17 with fail
    rw [← hX]
    clear hX SW
    have LF : Hid (lineF e.c = (joinL ([[115, 112, 108, 105, 116], e.id, e.node, e.other]) [32] ++ [10], 0)) := Lib.hid (by unfold lineF; rw [if_neg (show ¬ e.c.op = 1 from G1.out)]; unfold lineW; rw [if_neg (show ¬ e.c.op = 2 from G2.out), if_neg (show ¬ e.c.op = 3 from G3.out), if_neg (show ¬ e.c.op = 4 from G4.out), if_neg (show ¬ e.c.op = 5 from G5.out), if_pos (show e.c.op = 6 from G6.out)]; rfl)
    have JL : Hid ((joinL ([[115, 112, 108, 105, 116], e.id, e.node, e.other]) [32]).length ≤ 100000) := Lib.hid (JL0.out)
    have JJ := Lib.hid (JA.out ([[115, 112, 108, 105, 116], e.id, e.node, e.other]) _ (4) _ _ (by rfl) CP.out (by simp) (by have := JL.out; omega) RD.out)
    have a1 : ∀ W : World, (Op.stringOp .add (mkB (joinL ([[115, 112, 108, 105, 116], e.id, e.node, e.other]) [32])) ⟨#[10]⟩).run Tryz.prog W = .ok (.string (mkB (joinL ([[115, 112, 108, 105, 116], e.id, e.node, e.other]) [32] ++ [10]))) W := add_str _ [10] (by have := JL.out; simp; omega)
    generalize joinL ([[115, 112, 108, 105, 116], e.id, e.node, e.other]) [32] = J at *
    go_wp2_with fail
    (with_reducible refine JJ.out.mono ?_)
    rintro en u10 ⟨rfl, d10⟩
    have DD := Lib.hid (BA.out _ (OldB.then SS.out d10))
    clear d10 JJ
    go_wp2_with fail
    go_ret2
    exact ⟨by rw [LF.out]; rfl, DD.out⟩
  have G6 := Lib.hid h6
  clear h6
  have e1 : (e.op == 1) = false := by simpa using G1.out
  have e2 : (e.op == 2) = false := by simpa using G2.out
  have e3 : (e.op == 3) = false := by simpa using G3.out
  have e4 : (e.op == 4) = false := by simpa using G4.out
  have e5 : (e.op == 5) = false := by simpa using G5.out
  have e6 : (e.op == 6) = false := by simpa using G6.out
  obtain ⟨il, ol⟩ := okE_7 OK.out G1.out G2.out G3.out G4.out G5.out G6.out
  have JL0 : Hid ((joinL [[106, 111, 105, 110], e.id, e.other] [32]).length ≤ 100000) := Lib.hid (Nat.le_trans (join_len [32] 24 _ (by intro t ht; simp at ht; rcases ht with rfl | rfl | rfl; decide; exact il; exact ol)) (by simp))
  clear il ol
  obtain ⟨X, hX⟩ : ∃ X, X = W.alloc (.cells #[.string ⟨#[106, 111, 105, 110]⟩, .string (mkB e.id), .string (mkB e.other)] 9) := ⟨_, rfl⟩
  have SS : Hid (OldB W X) := Lib.hid (by rw [hX]; exact (Below.refl _ _).alloc (Nat.le_refl _) _)
  have RD : Hid (Rd X (some ⟨W.heap.size, 0, none⟩) (strsC [[106, 111, 105, 110], e.id, e.other])) := Lib.hid (by rw [hX]; exact Rd.of_row (heap_alloc_new _ _) (List.prefix_refl _))
  have CP : Hid (([[106, 111, 105, 110], e.id, e.other] : List Tx).length ≤ 3) := Lib.hid (Nat.le_refl _)
  go_upto_region 17 with fail
  rw [← hX]
  clear hX SW
  have LF : Hid (lineF e.c = (joinL ([[106, 111, 105, 110], e.id, e.other]) [32] ++ [10], 0)) := Lib.hid (by unfold lineF; rw [if_neg (show ¬ e.c.op = 1 from G1.out)]; unfold lineW; rw [if_neg (show ¬ e.c.op = 2 from G2.out), if_neg (show ¬ e.c.op = 3 from G3.out), if_neg (show ¬ e.c.op = 4 from G4.out), if_neg (show ¬ e.c.op = 5 from G5.out), if_neg (show ¬ e.c.op = 6 from G6.out)]; rfl)
  have JL : Hid ((joinL ([[106, 111, 105, 110], e.id, e.other]) [32]).length ≤ 100000) := Lib.hid (JL0.out)
  have JJ := Lib.hid (JA.out ([[106, 111, 105, 110], e.id, e.other]) _ (3) _ _ (by rfl) CP.out (by simp) (by have := JL.out; omega) RD.out)
  have a1 : ∀ W : World, (Op.stringOp .add (mkB (joinL ([[106, 111, 105, 110], e.id, e.other]) [32])) ⟨#[10]⟩).run Tryz.prog W = .ok (.string (mkB (joinL ([[106, 111, 105, 110], e.id, e.other]) [32] ++ [10]))) W := add_str _ [10] (by have := JL.out; simp; omega)
  generalize joinL ([[106, 111, 105, 110], e.id, e.other]) [32] = J at *
  go_wp2_with fail
  (with_reducible refine JJ.out.mono ?_)
  rintro en u11 ⟨rfl, d11⟩
  have DD := Lib.hid (BA.out _ (OldB.then SS.out d11))
  clear d11 JJ
  go_wp2_with fail
  go_ret2
  exact ⟨by rw [LF.out]; rfl, DD.out⟩
end Go.Proofs.YtniklmikdkjgiaaGreatDoor
namespace Go.Proofs.YtniklmikdkjgiaaGreatDoor
open Go.RowKit
def textGo : Tx → List Ed → Tx × Nat
  | acc, [] => (acc, 0)
  | acc, e :: l => if (lineF e).2 = 0 then (if 20000 < (acc ++ (lineF e).1).length then ([], 2) else textGo (acc ++ (lineF e).1) l) else ([], 2)
def changeTextF (l : List Ed) : Tx × Nat := if validC l then textGo [] l else ([], 1)
def BS (b : Nat) (u1 : World) (t : Tx) (u : World) : Prop := Lib.IsBuilder 146 5 b b (Lib.byteCells t) u ∧ OT b u1 u
theorem bld_parts {B b : Nat} {t : Tx} {w : World} (h : Lib.IsBuilder 146 5 B b (Lib.byteCells t) w) : ∃ p v, B ≤ b ∧ w.heap[b]? = some (.cells #[p, v] 146 (0, 0)) ∧ w.ownsRow B 5 1 v t.length (Lib.byteCells t) := by
  rcases h with ⟨h1, v, h2, h3, -⟩ | ⟨h1, v, h2, h3, -⟩
  · exact ⟨_, v, h1, h2, by rwa [Lib.byteCells_length] at h3⟩
  · exact ⟨_, v, h1, h2, by rwa [Lib.byteCells_length] at h3⟩
theorem bld_below {B b : Nat} {t : Tx} {w w' : World} (h : Lib.IsBuilder 146 5 B b (Lib.byteCells t) w) (k : Below w.heap.size w w') : Lib.IsBuilder 146 5 B b (Lib.byteCells t) w' := by
  rcases h with ⟨h1, v, h2, h3, h4⟩ | ⟨h1, v, h2, h3, h4⟩
  · exact .inl ⟨h1, v, (k.block b (lt_of_block h2)).trans h2, own_below h3 k (Nat.le_refl _), h4⟩
  · exact .inr ⟨h1, v, (k.block b (lt_of_block h2)).trans h2, own_below h3 k (Nat.le_refl _), h4⟩
theorem BS.size {b : Nat} {u1 u : World} {t : Tx} (h : BS b u1 t u) : b ≤ u.heap.size := by obtain ⟨p, v, -, hb, -⟩ := bld_parts h.1; exact Nat.le_of_lt (lt_of_block hb)
theorem BS.call {b : Nat} {u1 u u' : World} {t : Tx} (h : BS b u1 t u) (k : Below u.heap.size u u') : BS b u1 t u' := ⟨bld_below h.1 k, Below.trans h.2 (k.mono h.size)⟩
theorem BS.len {b : Nat} {u1 u : World} {t : Tx} (h : BS b u1 t u) : Calls Tryz.prog 149 #[.pointer (some ⟨b, 0, none⟩)] u fun e w' => e = .returned (.int .i64 (t.length : Int)) ∧ w' = u := by
  have := Tryz.Builder_Len b b _ u h.1
  rwa [Lib.byteCells_length] at this
theorem BS.write {b : Nat} {u1 u : World} {t : Tx} (h : BS b u1 t u) (s : Tx) (hl : t.length + s.length ≤ 1000000000) :
    Calls Tryz.prog 112 #[.pointer (some ⟨b, 0, none⟩), .string (mkB s)] u fun e w' => e = .returned (.tuple #[.int .i64 (s.length : Int), .nilIface]) ∧ BS b u1 (t ++ s) w' := by
  refine (writeString_any b b _ (mkB s) u h.1 (by rw [Lib.byteCells_length, mkB_len]; omega) h.size).mono ?_
  rintro e w' ⟨rfl, h1, h2⟩
  refine ⟨by rw [mkB_len], .inr ?_, Below.trans h.2 h2⟩
  have sc : Lib.strCells (mkB s) = Lib.byteCells s := by rw [← mkB_list s]; rfl
  rw [byteCells_app, ← sc]; exact h1
theorem BS.str {b : Nat} {u1 u : World} {t : Tx} (h : BS b u1 t u) : Calls Tryz.prog 115 #[.pointer (some ⟨b, 0, none⟩)] u fun e w' => e = .returned (.string (mkB t)) ∧ OT b u1 w' := by
  refine (Tryz.Builder_String_any b b t u h.1 h.size).mono ?_
  rintro e w' ⟨rfl, h1⟩
  exact ⟨rfl, Below.trans h.2 h1⟩
theorem line_len {e : Ed} (h : okE e = true) : (lineF e).1.length ≤ 200000 := by
  unfold lineF
  split
  · have := objText_len e.ob
    simp; omega
  · rename_i h1
    have M : (lineW e).length ≤ 2002 ∧ ∀ t ∈ lineW e, t.length ≤ 24 ∨ (lineW e).length ≤ 4 ∧ t.length ≤ 500 := by
      unfold lineW
      split
      · rename_i h2
        obtain ⟨il, X, Y, hX, hY, xb, yb⟩ := okE_2 h h2
        have DX := dec_len 20 X (by omega) (by decide)
        have DY := dec_len 20 Y (by omega) (by decide)
        rw [hX, hY, Int.toNat_natCast, Int.toNat_natCast]
        refine ⟨by simp, fun t ht => ?_⟩
        simp at ht
        rcases ht with rfl | rfl | rfl | rfl
        · exact .inl (by decide)
        all_goals exact .inl (by omega)
      · split
        · rename_i h3
          obtain ⟨il, kl, vl⟩ := okE_3 h h3
          have ql := quoteF_len e.value
          refine ⟨by simp, fun t ht => ?_⟩
          simp at ht
          rcases ht with rfl | rfl | rfl | rfl
          · exact .inl (by decide)
          · exact .inl il
          · exact .inl kl
          · exact .inr ⟨by simp, by omega⟩
        · split
          · rename_i h4
            obtain ⟨il, rp, rl, rs⟩ := okE_4 h h4
            refine ⟨by simp; omega, fun t ht => ?_⟩
            simp at ht
            rcases ht with rfl | rfl | ht
            · exact .inl (by decide)
            · exact .inl il
            · exact .inl (rs t ht)
          · split
            · rename_i h5
              have il := okE_5 h h5
              refine ⟨by simp, fun t ht => ?_⟩
              simp at ht
              rcases ht with rfl | rfl
              · exact .inl (by decide)
              · exact .inl il
            · split
              · rename_i h6
                obtain ⟨il, nl, ol⟩ := okE_6 h h6
                refine ⟨by simp, fun t ht => ?_⟩
                simp at ht
                rcases ht with rfl | rfl | rfl | rfl
                · exact .inl (by decide)
                all_goals exact .inl (by assumption)
              · rename_i h2 h3 h4 h5 h6
                obtain ⟨il, ol⟩ := okE_7 h h1 h2 h3 h4 h5 h6
                refine ⟨by simp, fun t ht => ?_⟩
                simp at ht
                rcases ht with rfl | rfl | rfl
                · exact .inl (by decide)
                all_goals exact .inl (by assumption)
    rw [List.length_append, List.length_singleton]
    by_cases h4 : (lineW e).length ≤ 4
    · have := join_len [32] 500 (lineW e) (fun t ht => by rcases M.2 t ht with h | h <;> omega)
      have : (lineW e).length * (500 + [32].length) ≤ 4 * 501 := Nat.mul_le_mul h4 (by decide)
      omega
    · have := join_len [32] 24 (lineW e) (fun t ht => by rcases M.2 t ht with h | h <;> omega)
      have : (lineW e).length * (24 + [32].length) ≤ 2002 * 25 := Nat.mul_le_mul M.1 (by decide)
      omega
theorem ctext_any (A : Option Addr) (n c : Nat) (l : List EV) (w : World) (hn : n = l.length) (h : Es w A l) (ht : Tab w) :
    Calls Tryz.prog 123 #[.slice A n c] w (TxtE w (changeTextF (edsC l))) := by
  have VA := Lib.hid (cvalid_any A n c l w hn h)
  have PM : Hid (changeTextF (edsC l) = if validC (edsC l) then textGo [] (edsC l) else ([], 1)) := Lib.hid rfl
  have H := Lib.hid h
  have HN := Lib.hid hn
  have HT := Lib.hid ht
  clear h hn ht
  go_enter Tryz.func123, Tryz.ntmps123
  go_wp2_with fail
  refine VA.out.mono ?_
  rintro e u1 ⟨rfl, b1⟩
  have B1 := Lib.hid b1
  clear b1 VA
  cases hV : validC (edsC l)
  · have PE : Hid (changeTextF (edsC l) = ([], 1)) := Lib.hid (by rw [PM.out, hV]; rfl)
    go_wp2_with fail
    go_ret2
    exact ⟨by rw [PE.out]; rfl, B1.out⟩
  · have PE : Hid (changeTextF (edsC l) = textGo [] (edsC (l.drop 0))) := Lib.hid (by rw [PM.out, hV]; rfl)
    unfold validC at hV
    simp only [Bool.and_eq_true, decide_eq_true_eq, List.all_eq_true] at hV
    obtain ⟨⟨hp, h200⟩, hall⟩ := hV
    have HA := Lib.hid hall
    have n200 : n ≤ 200 := by rw [HN.out]; simpa [edsC] using h200
    obtain ⟨u2, hu2⟩ : ∃ u2, u2 = u1.alloc (.cells #[.pointer none, .slice none 0 0] 146) := ⟨_, rfl⟩
    obtain ⟨b, hb⟩ : ∃ b, u1.heap.size = b := ⟨_, rfl⟩
    have S0 : Hid (BS b u1 [] u2) := Lib.hid ⟨by rw [hu2, ← hb]; exact Lib.fresh_isBuilder _ _ _, by rw [hu2, ← hb]; exact (Below.refl _ _).alloc (Nat.le_refl _) _⟩
    have hwb : w.heap.size ≤ b := by rw [← hb]; exact B1.out.size
    have BA : Hid (∀ u, OT b u1 u → Below w.heap.size w u) := Lib.hid (fun u hu => B1.out.trans (Below.mono hu hwb))
    clear hall hp h200 PM
    go_upto_region 4 with fail
    rw [← hu2]
    try rw [hb]
    clear hu2 hb
    go_wp2_with fail
    go_loopw [6, 7, 8, 14] (fun s6 s7 s8 s14 wr => ∃ (k : Nat) (acc : Tx), k ≤ n ∧ acc.length ≤ 20000 ∧ s14 = .int .i64 (k : Int) ∧ (∃ p, s6 = p) ∧ (∃ p, s7 = p) ∧ (∃ p, s8 = p) ∧ Hid (BS b u1 acc wr) ∧ Hid (changeTextF (edsC l) = textGo acc (edsC (l.drop k)))) (fun _ _ _ i _ => n - (intOf i).toNat)
    case atStart => exact ⟨0, [], Nat.zero_le _, Nat.zero_le _, rfl, ⟨_, rfl⟩, ⟨_, rfl⟩, ⟨_, rfl⟩, S0, PE⟩
    case round =>
      clear S0 PE B1
      obtain ⟨k, acc, hk, hacc, rfl, ⟨p6, rfl⟩, ⟨p7, rfl⟩, ⟨p8, rfl⟩, S, PE⟩ := hrel
      by_cases hlt : k < n
      · have hkl : k < l.length := by rw [← HN.out]; exact hlt
        have d1 : (k : Int) < (n : Int) := by omega
        have d2 : (0 : Int) ≤ (k : Int) := by omega
        have HW := Lib.hid (H.out.below (BA.out _ S.out.2))
        obtain ⟨b0, off, A1, c1, A3, c3, A4, c4, rfl, hbz, hv, hc⟩ := evs_cells HW.out hkl
        have hok : okE l[k].c = true := by
          have := HA.out l[k].c (List.mem_map_of_mem (List.getElem_mem hkl))
          unfold validE at this
          rw [Bool.and_eq_true] at this
          exact this.1
        have LE := line_len hok
        have TG : Hid (changeTextF (edsC l) = if (lineF l[k].c).2 = 0 then (if 20000 < (acc ++ (lineF l[k].c).1).length then ([], 2) else textGo (acc ++ (lineF l[k].c).1) (edsC (l.drop (k + 1)))) else ([], 2)) := Lib.hid (by rw [PE.out, List.drop_eq_getElem_cons hkl]; rfl)
        have BX := (Below.refl wr.heap.size wr).alloc (Nat.le_refl _) (.cells #[.int .i64 l[k].op, .string (mkB l[k].id), .string (mkB l[k].other), .string (mkB l[k].node), .int .i64 l[k].x, .int .i64 l[k].y, .string (mkB l[k].key), .string (mkB l[k].value), .slice A1 l[k].refs.length c1, .string (mkB l[k].o.c.id), .int .i64 l[k].o.c.kind, .int .i64 l[k].o.c.x, .int .i64 l[k].o.c.y, .slice A3 l[k].o.c.refs.length c3, .slice A4 l[k].o.c.tags.length c4] 93)
        have LA := line_any l[k] _ ((HW.out.is _ (List.getElem_mem hkl)).below BX) (H.out.sz _ (List.getElem_mem hkl)) (H.out.cap _ (List.getElem_mem hkl)) hok (HT.out.keep ((BA.out _ S.out.2).trans (BX.mono (BA.out _ S.out.2).size)))
        rw [hv] at LA
        have LH := Lib.hid LA
        have S2 := Lib.hid (S.out.call BX)
        have z0 : wr.cell? ⟨b0, off + k * 15, none⟩ = some (.int .i64 l[k].op) := hc 0 _ rfl
        have z1 := hc 1 _ rfl
        have z2 := hc 2 _ rfl
        have z3 := hc 3 _ rfl
        have z4 := hc 4 _ rfl
        have z5 := hc 5 _ rfl
        have z6 := hc 6 _ rfl
        have z7 := hc 7 _ rfl
        have z8 := hc 8 _ rfl
        have z9 := hc 9 _ rfl
        have z10 := hc 10 _ rfl
        have z11 := hc 11 _ rfl
        have z12 := hc 12 _ rfl
        have z13 := hc 13 _ rfl
        have z14 := hc 14 _ rfl
        generalize lineF l[k].c = r at *
        generalize l[k] = x at *
        obtain ⟨t, er⟩ := r
        dsimp only at LE TG
        clear LA hc hv hok BX PE HW
        go_wp2_with fail
        refine LH.out.mono ?_
        rintro e w1 ⟨rfl, b1⟩
        have S3 := Lib.hid (S2.out.call b1)
        have WS := Lib.hid (S3.out.write t (by omega))
        clear b1 LH S2 S z0 z1 z2 z3 z4 z5 z6 z7 z8 z9 z10 z11 z12 z13 z14
        go_wp2_with fail
        refine WS.out.mono ?_
        rintro e w2 ⟨rfl, hs2⟩
        have S4 := Lib.hid hs2
        clear hs2 WS S3
        by_cases he : er = 0
        · have e1 : ((er : Int) == 0) = true := by rw [he]; rfl
          have T2 : Hid (changeTextF (edsC l) = (if 20000 < (acc ++ t).length then ([], 2) else textGo (acc ++ t) (edsC (l.drop (k + 1))))) := Lib.hid (by rw [TG.out, if_pos he])
          clear TG
          rw [he]
          clear he e1
          go_wp2_with fail
          refine (BS.len S4.out).mono ?_
          rintro e w3 ⟨rfl, rfl⟩
          generalize acc ++ t = acc2 at *
          by_cases h2 : 20000 < acc2.length
          · have d3 : (20000 : Int) < (acc2.length : Int) := by omega
            have T3 : Hid (changeTextF (edsC l) = ([], 2)) := Lib.hid (by rw [T2.out, if_pos h2])
            clear T2
            go_wp2_with fail
            go_ret2
            exact ⟨by rw [T3.out]; rfl, BA.out _ S4.out.2⟩
          · have d3 : ¬ (20000 : Int) < (acc2.length : Int) := by omega
            have T3 : Hid (changeTextF (edsC l) = textGo acc2 (edsC (l.drop (k + 1)))) := Lib.hid (by rw [T2.out, if_neg h2])
            clear T2
            go_wp2_with fail
            exact ⟨⟨k + 1, acc2, by omega, by omega, by go_num, ⟨_, rfl⟩, ⟨_, rfl⟩, ⟨_, rfl⟩, S4, T3⟩, by simp [intOf]; omega⟩
        · have e1 : ((er : Int) != 0) = true := by simpa using he
          have T3 : Hid (changeTextF (edsC l) = ([], 2)) := Lib.hid (by rw [TG.out, if_neg he])
          clear TG he
          go_wp2_with fail
          go_ret2
          exact ⟨by rw [T3.out]; rfl, BA.out _ S4.out.2⟩
      · have d1 : ¬ (k : Int) < (n : Int) := by omega
        have TE : Hid (changeTextF (edsC l) = (acc, 0)) := Lib.hid (by rw [PE.out, List.drop_eq_nil_of_le (by rw [← HN.out]; omega)]; rfl)
        clear PE
        go_wp2_with fail
        refine (BS.str S.out).mono ?_
        rintro e w3 ⟨rfl, h3⟩
        have OO := Lib.hid (BA.out _ h3)
        clear h3
        go_wp2_with fail
        go_ret2
        exact ⟨by rw [TE.out]; rfl, OO.out⟩
end Go.Proofs.YtniklmikdkjgiaaGreatDoor
namespace Go.Proofs.YtniklmikdkjgiaaGreatDoor
open Go.RowKit
theorem isT_anyG (t : Tx) (w : World) (hs : t.length ≤ 9223372036854775807) :
    Calls Tryz.prog 85 #[.string (mkB t)] w fun e w' => e = .returned (.bool (Dg.isD t)) ∧ Below w.heap.size w w' := by
  have := is_any (mkB t) w (by rw [mkB_len]; exact hs)
  rwa [mkB_list] at this
theorem digests1_any (s : Tx) (w : World) (hs : s.length ≤ 9223372036854775807) :
    Calls Tryz.prog 122 #[.string (mkB s)] w fun e w' => e = .returned (.bool (!Dg.isD s)) ∧ Below w.heap.size w w' := by
  have NA := Lib.hid (isT_anyG s w hs)
  clear hs
  go_enter Tryz.func122, Tryz.ntmps122
  go_wp2_with fail
  refine NA.out.mono ?_
  rintro e w1 ⟨rfl, b1⟩
  have B1 := Lib.hid b1
  clear b1 NA
  go_wp2_with fail
  go_ret
  exact ⟨rfl, B1.out⟩
theorem digests_any (A : Option Addr) (n c : Nat) (l : List Tx) (w : World) (hn : n = l.length) (hl : n ≤ 1000000) (hs : ∀ s ∈ l, s.length ≤ 1000000) (h : Rd w A (strsC l)) :
    Calls Tryz.prog 83 #[.slice A n c] w fun e w' => e = .returned (.bool (l.all Dg.isD)) ∧ Below w.heap.size w w' := by
  have HA := Lib.hid (hasp_any 122 (fun s => !Dg.isD s) (enters_of Tryz.func122 (by kernel_rfl) rfl) A n c l w hn hl h (fun s hm u => digests1_any s u (Nat.le_trans (hs s hm) (by decide))))
  rw [← any_not]
  generalize (l.any fun s => !Dg.isD s) = R at *
  clear hn h hs
  go_enter Tryz.func83, Tryz.ntmps83
  go_wp2_with fail
  refine HA.out.mono ?_
  rintro e w1 ⟨rfl, b1⟩
  have B1 := Lib.hid b1
  clear b1 HA
  go_wp2_with fail
  go_ret
  exact ⟨rfl, B1.out⟩
structure SlV where
  index : Int
  sig : List Tx
  path : List Tx
  sv : Value
  pv : Value
def slL (s : SlV) : List Value := [.int .i64 s.index, s.sv, s.pv]
structure SlvIs (w : World) (s : SlV) : Prop where
  sg : SlIs w s.sv s.sig.length (strsC s.sig)
  pa : SlIs w s.pv s.path.length (strsC s.path)
theorem SlvIs.below {w w' : World} {s : SlV} (h : SlvIs w s) (hb : Below w.heap.size w w') : SlvIs w' s := ⟨h.sg.below hb, h.pa.below hb⟩
structure Se where
  index : Int
  sig : List Tx
  path : List Tx
def SlV.c (s : SlV) : Se := ⟨s.index, s.sig, s.path⟩
structure SeSz (s : Se) : Prop where
  sig : s.sig.length ≤ 1000000
  sigs : ∀ t ∈ s.sig, t.length ≤ 1000000
  path : s.path.length ≤ 1000000
  paths : ∀ t ∈ s.path, t.length ≤ 1000000
def zeroS (s : Se) : Bool := decide (s.index = 0) && decide (s.sig.length + s.path.length = 0)
def formedS (s : Se) : Bool := zeroS s || (decide (0 ≤ s.index) && decide (s.index < 256) && decide (s.sig.length = 18) && decide (s.path.length ≤ 8) && s.sig.all Dg.isD && s.path.all Dg.isD)
theorem zeroS_any (i : Int) (A1 : Option Addr) (n1 c1 : Nat) (A2 : Option Addr) (n2 c2 : Nat) (w : World) (h1 : n1 ≤ 1000000) (h2 : n2 ≤ 1000000) :
    Calls Tryz.prog 119 #[.agg #[.int .i64 i, .slice A1 n1 c1, .slice A2 n2 c2]] w fun e w' => e = .returned (.bool (decide (i = 0) && decide (n1 + n2 = 0))) ∧ Below w.heap.size w w' := by
  have BX := Lib.hid ((Below.refl w.heap.size w).alloc (Nat.le_refl _) (.cells #[.int .i64 i, .slice A1 n1 c1, .slice A2 n2 c2] 51))
  have k8 : IntKind.i64.wrap ((n1 : Int) + (n2 : Int)) = (n1 : Int) + (n2 : Int) := IntWalk.i64_in _ (by omega)
  go_enter Tryz.func119, Tryz.ntmps119
  by_cases hi : i = 0
  · have e1 : (i == 0) = true := by rw [hi]; rfl
    have e2 : decide (i = 0) = true := decide_eq_true hi
    rw [e2]
    clear hi e2
    cases hz : decide (n1 + n2 = 0)
    · have e3 : (((n1 : Int) + (n2 : Int)) == 0) = false := by simp at hz ⊢; omega
      clear hz
      go_wp2_with fail
      go_ret
      exact ⟨rfl, BX.out⟩
    · have e3 : (((n1 : Int) + (n2 : Int)) == 0) = true := by simp at hz ⊢; omega
      clear hz
      go_wp2_with fail
      go_ret
      exact ⟨rfl, BX.out⟩
  · have e1 : (i == 0) = false := by simpa using hi
    rw [decide_eq_false hi]
    clear hi
    go_wp2_with fail
    go_ret
    exact ⟨rfl, BX.out⟩
theorem formed_any (s : SlV) (w : World) (h : SlvIs w s) (hs : SeSz s.c) :
    Calls Tryz.prog 78 #[.agg (slL s).toArray] w fun e w' => e = .returned (.bool (formedS s.c)) ∧ Below w.heap.size w w' := by
  obtain ⟨⟨A1, c1, v1, r1⟩, ⟨A2, c2, v2, r2⟩⟩ := h
  have hsl : slL s = [.int .i64 s.index, .slice A1 s.sig.length c1, .slice A2 s.path.length c2] := by unfold slL; rw [v1, v2]
  rw [hsl]
  obtain ⟨W, hW⟩ : ∃ W, W = w.alloc (.cells #[.int .i64 s.index, .slice A1 s.sig.length c1, .slice A2 s.path.length c2] 51) := ⟨_, rfl⟩
  obtain ⟨bx, hbx⟩ : ∃ bx, w.heap.size = bx := ⟨_, rfl⟩
  have HX : Hid (W.heap[bx]? = some (.cells #[.int .i64 s.index, .slice A1 s.sig.length c1, .slice A2 s.path.length c2] 51 (0, 0))) := Lib.hid (by rw [hW, ← hbx]; exact heap_alloc_new w _)
  have HZ : bx < W.heap.size := by rw [hW, ← hbx]; simp
  have BH : Hid (Below w.heap.size w W) := Lib.hid (by rw [hW]; exact (Below.refl _ _).alloc (Nat.le_refl _) _)
  have BA : Hid (∀ u, OldB W u → Below w.heap.size w u) := Lib.hid (fun u hu => BH.out.trans (Below.mono hu BH.out.size))
  have k0 : ∀ u, OldB W u → u.cell? ⟨bx, 0, none⟩ = some (.int .i64 s.index) := fun u hu => by rw [Lib.cell_of_heap ((hu.block bx HZ).trans HX.out)]; rfl
  have k1 : ∀ u, OldB W u → u.cell? ⟨bx, 1, none⟩ = some (.slice A1 s.sig.length c1) := fun u hu => by rw [Lib.cell_of_heap ((hu.block bx HZ).trans HX.out)]; rfl
  have k2 : ∀ u, OldB W u → u.cell? ⟨bx, 2, none⟩ = some (.slice A2 s.path.length c2) := fun u hu => by rw [Lib.cell_of_heap ((hu.block bx HZ).trans HX.out)]; rfl
  have SW : OldB W W := Below.refl _ _
  have h1 : s.sig.length ≤ 1000000 := hs.sig
  have h2 : s.path.length ≤ 1000000 := hs.path
  have ZA := Lib.hid (zeroS_any s.index A1 s.sig.length c1 A2 s.path.length c2 W h1 h2)
  have DA : Hid (∀ u, OldB W u → Calls Tryz.prog 83 #[.slice A1 s.sig.length c1] u fun e w' => e = .returned (.bool (s.sig.all Dg.isD)) ∧ Below u.heap.size u w') := Lib.hid (fun u hu => digests_any A1 _ c1 s.sig u rfl h1 hs.sigs (r1.below (BA.out u hu)))
  have DB : Hid (∀ u, OldB W u → Calls Tryz.prog 83 #[.slice A2 s.path.length c2] u fun e w' => e = .returned (.bool (s.path.all Dg.isD)) ∧ Below u.heap.size u w') := Lib.hid (fun u hu => digests_any A2 _ c2 s.path u rfl h2 hs.paths (r2.below (BA.out u hu)))
  have PM : Hid (formedS s.c = ((decide (s.index = 0) && decide (s.sig.length + s.path.length = 0)) || (decide (0 ≤ s.index) && decide (s.index < 256) && decide (s.sig.length = 18) && decide (s.path.length ≤ 8) && s.sig.all Dg.isD && s.path.all Dg.isD))) := Lib.hid rfl
  generalize formedS s.c = R at *
  generalize (decide (s.index = 0) && decide (s.sig.length + s.path.length = 0)) = z at *
  generalize s.sig.all Dg.isD = da at *
  generalize s.path.all Dg.isD = db at *
  generalize s.sig.length = n1 at *
  generalize s.path.length = n2 at *
  generalize s.index = i at *
  clear hs h1 h2 hsl v1 v2 r1 r2 HZ
  go_enter Tryz.func78, Tryz.ntmps78
  go_upto_region 1 with fail
  try rw [hbx]
  rw [← hW]
  clear hW
  go_wp2_with fail
  refine ZA.out.mono ?_
  rintro e u1 ⟨rfl, d1⟩
  have O1 : OldB W u1 := d1
  clear d1 ZA SW
  cases z
  · rw [Bool.false_or] at PM
    cases q1 : decide (0 ≤ i)
    · have RF : Hid (R = false) := Lib.hid (by rw [PM.out, q1]; rfl)
      go_wp2_with fail
      go_ret
      exact ⟨by rw [RF.out]; rfl, BA.out _ O1⟩
    cases q2 : decide (i < 256)
    · have RF : Hid (R = false) := Lib.hid (by rw [PM.out, q1, q2]; rfl)
      go_wp2_with fail
      go_ret
      exact ⟨by rw [RF.out]; rfl, BA.out _ O1⟩
    cases q3 : decide (n1 = 18)
    · have RF : Hid (R = false) := Lib.hid (by rw [PM.out, q1, q2, q3]; rfl)
      have e3 : ((n1 : Int) == 18) = false := by simp at q3 ⊢; omega
      clear q3
      go_wp2_with fail
      go_ret
      exact ⟨by rw [RF.out]; rfl, BA.out _ O1⟩
    have e3 : ((n1 : Int) == 18) = true := by simp at q3 ⊢; omega
    cases q4 : decide (n2 ≤ 8)
    · have RF : Hid (R = false) := Lib.hid (by rw [PM.out, q1, q2, q3, q4]; rfl)
      have e4 : decide ((n2 : Int) ≤ 8) = false := by simp at q4 ⊢; omega
      clear q3 q4
      go_wp2_with fail
      go_ret
      exact ⟨by rw [RF.out]; rfl, BA.out _ O1⟩
    have e4 : decide ((n2 : Int) ≤ 8) = true := by simp at q4 ⊢; omega
    have RP : Hid (R = (da && db)) := Lib.hid (by rw [PM.out, q1, q2, q3, q4]; simp only [Bool.true_and])
    clear q3 q4 PM
    go_wp2_with fail
    (with_reducible refine (DA.out _ O1).mono ?_)
    rintro e u2 ⟨rfl, d2⟩
    have O2 : OldB W u2 := O1.then d2
    clear d2 O1
    cases da
    · have RF : Hid (R = false) := Lib.hid (by rw [RP.out]; rfl)
      go_wp2_with fail
      go_ret
      exact ⟨by rw [RF.out]; rfl, BA.out _ O2⟩
    go_wp2_with fail
    (with_reducible refine (DB.out _ O2).mono ?_)
    rintro e u3 ⟨rfl, d3⟩
    have O3 : OldB W u3 := O2.then d3
    clear d3 O2
    go_wp2_with fail
    go_ret
    exact ⟨by rw [RP.out]; rfl, BA.out _ O3⟩
  · have RT : Hid (R = true) := Lib.hid (by rw [PM.out]; rfl)
    go_wp2_with fail
    go_ret
    exact ⟨by rw [RT.out]; rfl, BA.out _ O1⟩
def rtextF (l : List Ed) : Tx × Bool := if l.length = 0 then ([], true) else ((changeTextF l).1, decide ((changeTextF l).2 = 0))
theorem rtext_any (A : Option Addr) (n c : Nat) (l : List EV) (w : World) (hn : n = l.length) (h : Es w A l) (ht : Tab w) :
    Calls Tryz.prog 84 #[.slice A n c] w fun e w' => e = .returned (.tuple #[.string (mkB (rtextF (edsC l)).1), .bool (rtextF (edsC l)).2]) ∧ Below w.heap.size w w' := by
  have CT := Lib.hid (ctext_any A n c l w hn h ht)
  have hl : n ≤ 100000 := by rw [hn]; exact h.len
  have PM : Hid (rtextF (edsC l) = if n = 0 then ([], true) else ((changeTextF (edsC l)).1, decide ((changeTextF (edsC l)).2 = 0))) := Lib.hid (by unfold rtextF; rw [hn]; simp [edsC])
  generalize changeTextF (edsC l) = r at *
  obtain ⟨t, er⟩ := r
  dsimp only at PM
  clear hn h ht
  go_enter Tryz.func84, Tryz.ntmps84
  by_cases h0 : n = 0
  · have e0 : ((n : Int) == 0) = true := by rw [h0]; rfl
    have PF : Hid (rtextF (edsC l) = ([], true)) := Lib.hid (by rw [PM.out, if_pos h0])
    clear PM h0
    go_wp2_with fail
    go_ret2
    exact ⟨by rw [PF.out]; rfl, Below.refl _ _⟩
  · have e0 : ((n : Int) == 0) = false := by simp; omega
    have PF : Hid (rtextF (edsC l) = (t, decide (er = 0))) := Lib.hid (by rw [PM.out, if_neg h0])
    have e1 : ((er : Int) == 0) = decide (er = 0) := by by_cases h : er = 0 <;> simp [h]
    clear PM h0
    go_wp2_with fail
    refine CT.out.mono ?_
    rintro e w1 ⟨rfl, b1⟩
    have B1 := Lib.hid b1
    clear b1 CT
    go_wp2_with fail
    go_ret2
    exact ⟨by rw [PF.out]; rfl, B1.out⟩
end Go.Proofs.YtniklmikdkjgiaaGreatDoor
