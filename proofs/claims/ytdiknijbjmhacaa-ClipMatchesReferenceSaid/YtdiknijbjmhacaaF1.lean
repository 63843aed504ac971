/- WALKS: clip.Ring: cuts. -/
import Derived.Test.YtdiknijbjmhacaaE2
import Derived.Deep.DeepCutAuto
set_option linter.unusedSimpArgs false
set_option linter.unusedVariables false
namespace Go.Proofs.Ytdiknijbjmhacaa
open Go.RowKit
attribute [local go_sem ↓] Go.wp_at_zero Go.wp_at_succ

/-- a coordinate's function: what it computes of near points -/
def CoFn (fid : FuncId) (co : Int → Int → Int) : Prop :=
  (∀ x y u, Cl.nearB x y = true → Calls Try.prog fid #[.agg #[.int .i64 x, .int .i64 y]] u fun e w' => e = .returned (.int .i64 (co x y)) ∧ Below u.heap.size u w') ∧ ∀ x y, Cl.nearB x y = true → (-2097152 ≤ co x y ∧ co x y ≤ 2097152)
/-- a function of Go's own is entered -/
def Goes (fid : FuncId) : Prop := ∀ args w, (callFunc fid args).run Try.prog w = .ok (.enter fid args) w
theorem co1 : CoFn 32 fun x _ => -x := by
  refine ⟨fun x y u h => ?_, fun x y h => by have := Cl.near_iff.1 h; simp only; omega⟩
  obtain ⟨⟨h1, h2⟩, h3, h4⟩ := Cl.near_iff.1 h
  clear h
  go_enter Try.func32, Try.ntmps32
  go_wp2
  go_ret
  exact ⟨rfl, (Below.refl _ _).alloc (Nat.le_refl _) _⟩
theorem co2 : CoFn 33 fun x _ => x := by
  refine ⟨fun x y u h => ?_, fun x y h => by have := Cl.near_iff.1 h; simp only; omega⟩
  clear h
  go_enter Try.func33, Try.ntmps33
  go_wp2
  go_ret
  exact ⟨rfl, (Below.refl _ _).alloc (Nat.le_refl _) _⟩
theorem co3 : CoFn 34 fun _ y => -y := by
  refine ⟨fun x y u h => ?_, fun x y h => by have := Cl.near_iff.1 h; simp only; omega⟩
  obtain ⟨⟨h1, h2⟩, h3, h4⟩ := Cl.near_iff.1 h
  clear h
  go_enter Try.func34, Try.ntmps34
  go_wp2
  go_ret
  exact ⟨rfl, (Below.refl _ _).alloc (Nat.le_refl _) _⟩
theorem co4 : CoFn 35 fun _ y => y := by
  refine ⟨fun x y u h => ?_, fun x y h => by have := Cl.near_iff.1 h; simp only; omega⟩
  clear h
  go_enter Try.func35, Try.ntmps35
  go_wp2
  go_ret
  exact ⟨rfl, (Below.refl _ _).alloc (Nat.le_refl _) _⟩

theorem goes1 : Goes 32 := fun _ _ => by simp [go_sem]
theorem goes2 : Goes 33 := fun _ _ => by simp [go_sem]
theorem goes3 : Goes 34 := fun _ _ => by simp [go_sem]
theorem goes4 : Goes 35 := fun _ _ => by simp [go_sem]

set_option maxHeartbeats 2000000 in
theorem keeps_any (fid : FuncId) (co : Int → Int → Int) (lim x y : Int) (w : World) (HC : CoFn fid co) (HG : Goes fid) (hp : Cl.nearB x y = true) :
    Calls Try.prog 36 #[.agg #[.func (.func fid) #[] #[], .int .i64 lim], .agg #[.int .i64 x, .int .i64 y]] w fun e w' => e = .returned (.bool (decide (co x y ≤ lim))) ∧ Below w.heap.size w w' := by
  have C := Lib.hid (fun u => HC.1 x y u hp); clear HC hp
  unfold Goes at HG
  go_enter Try.func36, Try.ntmps36
  have L0 := alloc_new' w #[.func (.func fid) #[] #[], .int .i64 lim] 46 rfl
  have L1 := alloc_new' (w.alloc (.cells #[.func (.func fid) #[] #[], .int .i64 lim] 46)) #[.int .i64 x, .int .i64 y] 24 (k := w.heap.size + 1) (by simp)
  have L2 := (alloc_old (w.alloc (.cells #[.func (.func fid) #[] #[], .int .i64 lim] 46)) (.cells #[.int .i64 x, .int .i64 y] 24) (k := w.heap.size) (by simp)).trans L0
  have BB : Hid (Below w.heap.size w ((w.alloc (.cells #[.func (.func fid) #[] #[], .int .i64 lim] 46)).alloc (.cells #[.int .i64 x, .int .i64 y] 24))) := Lib.hid (((Below.refl _ _).alloc (Nat.le_refl _) _).alloc (by simp) _)
  obtain ⟨d0, d1⟩ := cell_two L2
  obtain ⟨e0, e1⟩ := cell_two L1
  clear L0 L1 L2
  go_wp2_with fail
  obtain ⟨W0, hW⟩ : ∃ W0, W0 = (w.alloc (.cells #[.func (.func fid) #[] #[], .int .i64 lim] 46)).alloc (.cells #[.int .i64 x, .int .i64 y] 24) := ⟨_, rfl⟩
  rw [← hW] at d0 d1 e0 e1 BB ⊢
  clear hW
  have D0 : ∀ w', OldOf W0.drew w' → w'.cell? ⟨w.heap.size, 0, none⟩ = some (.func (.func fid) #[] #[]) := fun w' h => h.c (by exact d0)
  have D1 : ∀ w', OldOf W0.drew w' → w'.cell? ⟨w.heap.size, 1, none⟩ = some (.int .i64 lim) := fun w' h => h.c (by exact d1)
  have E0 : ∀ w', OldOf W0.drew w' → w'.cell? ⟨w.heap.size + 1, 0, none⟩ = some (.int .i64 x) := fun w' h => h.c (by exact e0)
  have E1 : ∀ w', OldOf W0.drew w' → w'.cell? ⟨w.heap.size + 1, 1, none⟩ = some (.int .i64 y) := fun w' h => h.c (by exact e1)
  have o0 : OldOf W0.drew W0.drew := OldOf.refl _
  clear d0 d1 e0 e1
  go_region_held3 (fun w' => OldOf W0.drew w') (first | assumption | exact o2) ((refine (C.out _).mono ?_; rintro e w2 ⟨rfl, hb2⟩; have o2 := OldOf.below (by assumption) hb2))
  go_wp2
  go_ret
  exact ⟨rfl, BB.out.trans (o2.undrew.mono BB.out.size)⟩
end Go.Proofs.Ytdiknijbjmhacaa
