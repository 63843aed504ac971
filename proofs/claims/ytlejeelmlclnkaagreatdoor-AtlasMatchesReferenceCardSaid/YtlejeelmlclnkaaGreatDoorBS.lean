/- WORDS AND WALKS: differences in memory; atlas.differs, side.proper. -/
import Derived.Test.YtlejeelmlclnkaaGreatDoorBR
set_option linter.unusedSimpArgs false
set_option linter.unusedVariables false
namespace Go.Proofs.YtlejeelmlclnkaaGreatDoor
open Go.RowKit

structure DV where
  id : Tx
  was : Bool
  is : Bool
  o : RO
  n : RO
def DV.d (d : DV) : At.Dl := ⟨d.id, d.was, d.is, d.o.c, d.n.c⟩
def dvC (d : DV) : List Value := [.string (mkB d.id), .bool d.was, .bool d.is] ++ (roC d.o ++ roC d.n)
def dvsC (l : List DV) : List Value := l.flatMap dvC
theorem dvC_len (d : DV) : (dvC d).length = 15 := rfl
theorem dvsC_len (l : List DV) : (dvsC l).length = l.length * 15 := flat_len dvC 15 (fun _ => rfl) l
theorem dvsC_app (a b : List DV) : dvsC (a ++ b) = dvsC a ++ dvsC b := by unfold dvsC; rw [List.flatMap_append]
structure DvIs (w : World) (d : DV) : Prop where
  o : ObIs w d.o
  n : ObIs w d.n
theorem DvIs.below {w w' : World} {d : DV} (h : DvIs w d) (hb : Below w.heap.size w w') : DvIs w' d := ⟨h.o.below hb, h.n.below hb⟩
def DvSz (d : DV) : Prop := d.id.length ≤ 1000000 ∧ (ObSz d.o.c ∧ d.o.c.refs.length ≤ 100000) ∧ (ObSz d.n.c ∧ d.n.c.refs.length ≤ 100000)
/-- an object whose slices are written out -/
def obA (x : At.Ob) (A1 : Option Addr) (q1 : Nat) (A2 : Option Addr) (q2 : Nat) : List Value := [.string (mkB x.id), .int .i64 x.kind, .int .i64 x.x, .int .i64 x.y, .slice A1 x.refs.length q1, .slice A2 x.tags.length q2]
def zeroRO : RO := ⟨At.zeroOb, .slice none 0 0, .slice none 0 0⟩
theorem zeroIs (w : World) : ObIs w zeroRO := ⟨⟨none, 0, rfl, Rd.nil_ _ _⟩, ⟨none, 0, rfl, Rd.nil_ _ _⟩⟩
theorem zeroSz : ObSz zeroRO.c ∧ zeroRO.c.refs.length ≤ 100000 := ⟨⟨by simp [zeroRO, At.zeroOb], by simp [zeroRO, At.zeroOb], by simp [zeroRO, At.zeroOb], by simp [zeroRO, At.zeroOb], by simp [zeroRO, At.zeroOb]⟩, by simp [zeroRO, At.zeroOb]⟩
theorem zeroA : roA zeroRO = .agg #[.string (mkB []), .int .i64 0, .int .i64 0, .int .i64 0, .slice none 0 0, .slice none 0 0] := rfl
set_option maxHeartbeats 4000000 in
set_option maxRecDepth 100000 in
theorem differs_any (d : DV) (w : World) (h : DvIs w d) (hs : DvSz d) :
    Calls Tryz.prog 50 #[.agg (dvC d).toArray] w fun e w' => e = .returned (.bool (At.differs d.d)) ∧ Below w.heap.size w w' := by
  obtain ⟨A1, q1, v1, -⟩ := h.o.rs
  obtain ⟨A2, q2, v2, -⟩ := h.o.ts
  obtain ⟨A3, q3, v3, -⟩ := h.n.rs
  obtain ⟨A4, q4, v4, -⟩ := h.n.ts
  have DF : Hid (At.differs d.d = (decide (d.was ≠ d.is) || !At.sameO d.o.c d.n.c)) := Lib.hid rfl
  have SM : Hid (∀ u, Below w.heap.size w u → Calls Tryz.prog 44 #[roA d.o, roA d.n] u fun e w' => e = .returned (.bool (At.sameO d.o.c d.n.c)) ∧ Below u.heap.size u w') := Lib.hid (fun u hu => same_any d.o d.n u (h.o.below hu) (h.n.below hu) hs.2.1.1 hs.2.2.1)
  have BX : Hid (Below w.heap.size w (w.alloc (.cells (dvC d).toArray 45))) := Lib.hid ((Below.refl _ _).alloc (Nat.le_refl _) _)
  unfold roA at SM
  unfold dvC roC at BX ⊢
  rw [v1, v2, v3, v4] at SM BX ⊢
  simp only [List.cons_append, List.nil_append] at BX ⊢
  generalize At.differs d.d = R at *
  clear h hs v1 v2 v3 v4
  cases hw : d.was
  all_goals
    cases hi : d.is
    all_goals
      rw [hw, hi] at DF
      rw [hw, hi] at BX
      clear hw hi
      first
        | (have RT : Hid (R = true) := Lib.hid (by rw [DF.out]; rfl)
           go_enter Tryz.func50, Tryz.ntmps50
           go_wp2_with fail
           go_ret
           exact ⟨by rw [RT.out]; rfl, BX.out⟩)
        | (have RT : Hid (R = !At.sameO d.o.c d.n.c) := Lib.hid (by rw [DF.out]; rfl)
           go_enter Tryz.func50, Tryz.ntmps50
           go_wp2_with fail
           refine (SM.out _ BX.out).mono ?_
           rintro e w1 ⟨rfl, b1⟩
           have B1 := Lib.hid (BX.out.trans (b1.mono BX.out.size))
           clear b1
           cases hs : At.sameO d.o.c d.n.c
           all_goals
             rw [hs] at RT
             go_wp2_with fail
             go_ret
             exact ⟨by rw [RT.out]; rfl, B1.out⟩)
set_option maxHeartbeats 4000000 in
set_option maxRecDepth 100000 in
theorem proper_any (there : Bool) (id : Tx) (r : RO) (w : World) (h : ObIs w r) (hs : ObSz r.c ∧ r.c.refs.length ≤ 100000) :
    Calls Tryz.prog 51 #[.agg #[.bool there, .string (mkB id)], roA r] w fun e w' => e = .returned (.bool (At.properB there id r.c)) ∧ Below w.heap.size w w' := by
  obtain ⟨A1, q1, v1, -⟩ := h.rs
  obtain ⟨A2, q2, v2, -⟩ := h.ts
  have PB : Hid (At.properB there id r.c = if there then decide (id = r.c.id) && At.validO r.c else At.sameO r.c At.zeroOb) := Lib.hid rfl
  have SM : Hid (∀ u, Below w.heap.size w u → Calls Tryz.prog 44 #[roA r, roA zeroRO] u fun e w' => e = .returned (.bool (At.sameO r.c At.zeroOb)) ∧ Below u.heap.size u w') := Lib.hid (fun u hu => same_any r zeroRO u (h.below hu) (zeroIs u) hs.1 zeroSz.1)
  have VO : Hid (∀ u, Below w.heap.size w u → Calls Tryz.prog 43 #[roA r] u fun e w' => e = .returned (.bool (At.validO r.c)) ∧ Below u.heap.size u w') := Lib.hid (fun u hu => valid_any r u (h.below hu) hs.1 hs.2)
  rw [zeroA] at SM
  unfold roA at SM VO ⊢
  rw [v1, v2] at SM VO ⊢
  have te := mkB_tl []
  have em : (ByteArray.mk #[]) = mkB [] := rfl
  have ee : ByteArray.empty = mkB [] := rfl
  have t1 := mkB_tl id
  have t2 := mkB_tl r.c.id
  have BX : Hid (Below w.heap.size w ((w.alloc (.cells #[.bool there, .string (mkB id)] 79)).alloc (.cells #[.string (mkB r.c.id), .int .i64 r.c.kind, .int .i64 r.c.x, .int .i64 r.c.y, .slice A1 r.c.refs.length q1, .slice A2 r.c.tags.length q2] 43))) := Lib.hid (((Below.refl _ _).alloc (Nat.le_refl _) _).alloc (by simp) _)
  generalize At.properB there id r.c = R at *
  clear h hs v1 v2
  cases there
  · have RT : Hid (R = At.sameO r.c At.zeroOb) := Lib.hid PB.out
    go_enter Tryz.func51, Tryz.ntmps51
    go_wp2_with fail
    refine (SM.out _ BX.out).mono ?_
    rintro e w1 ⟨rfl, b1⟩
    have B1 := Lib.hid (BX.out.trans (b1.mono BX.out.size))
    clear b1
    go_wp2_with fail
    go_ret
    exact ⟨by rw [RT.out]; rfl, B1.out⟩
  · by_cases he : id = r.c.id
    · have e1 : (id == r.c.id) = true := by rw [he]; simp
      have RT : Hid (R = At.validO r.c) := Lib.hid (by rw [PB.out, if_pos rfl, decide_eq_true he]; rfl)
      clear he
      go_enter Tryz.func51, Tryz.ntmps51
      go_wp2_with fail
      refine (VO.out _ BX.out).mono ?_
      rintro e w1 ⟨rfl, b1⟩
      have B1 := Lib.hid (BX.out.trans (b1.mono BX.out.size))
      clear b1
      go_wp2_with fail
      go_ret
      exact ⟨by rw [RT.out]; rfl, B1.out⟩
    · have e1 : (id == r.c.id) = false := by simpa using he
      have RT : Hid (R = false) := Lib.hid (by rw [PB.out, if_pos rfl, decide_eq_false he]; rfl)
      clear he
      go_enter Tryz.func51, Tryz.ntmps51
      go_wp2_with fail
      go_ret
      exact ⟨by rw [RT.out]; rfl, BX.out⟩
end Go.Proofs.YtlejeelmlclnkaaGreatDoor
