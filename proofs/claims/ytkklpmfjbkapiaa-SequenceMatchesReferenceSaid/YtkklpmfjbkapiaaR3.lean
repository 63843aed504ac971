/- WALK: the reference's Common. -/
import Derived.Test.YtkklpmfjbkapiaaR2
import Derived.Test.YtkklpmfjbkapiaaV1b
namespace Go.Proofs.Ytkklpmfjbkapiaa
open Go.RowKit

theorem rshort_any (A : Option Addr) (n c : Nat) (w : World) (h : n ≤ 2000) : Calls Try.prog 26 #[.slice A n c] w fun e w' => e = .returned (.bool true) ∧ w = w' := by
  have hd : decide ((n : Int) ≤ 2000) = true := by simp; omega
  go_enter Try.func26, Try.ntmps26
  go_wp2
  go_ret
  exact ⟨rfl, rfl⟩

theorem RetI.at_ {w w' : World} {n : Nat} {a b : List ByteArray} {A : Option Addr} (h : Rd w A ((Sq.mtI a b).map (Value.int .i64))) {k : Nat} (hk : k < a.length) :
    ∃ g off, A = some ⟨g, off, none⟩ ∧ g < w.heap.size ∧ w.cell? ⟨g, off + k, none⟩ = some (.int .i64 (Sq.idx (Sq.asg (Sq.mt a b 0 0) k))) := by
  have hk' : k < (Sq.mtI a b).length := by rw [Sq.mtI_len]; exact hk
  obtain ⟨g, off, e, hg, hc⟩ := h.map_at hk'
  rw [Sq.mtI_at] at hc
  exact ⟨g, off, e, hg, hc⟩

set_option maxHeartbeats 1600000 in
theorem rcommon_sl (A B : Option Addr) (n m c d : Nat) (a b : List ByteArray) (w : World) (h1 : Sl w A n c a) (h2 : Sl w B m d b) (ha : a.length ≤ 2000) (hb : b.length ≤ 2000) :
    Calls Try.prog 15 #[.slice A n c, .slice B m d] w (RetSl w (Sq.com a b)) := by
  obtain ⟨rfl, h11, h12, h13⟩ := h1
  obtain ⟨rfl, h21, h22, h23⟩ := h2
  have H := Lib.hid h13; clear h13
  have H2 := Lib.hid h23; clear h23
  go_enter Try.func15, Try.ntmps15
  go_wp2_with fail
  refine (rshort_any _ _ _ _ ha).mono ?_
  rintro e w' ⟨rfl, rfl⟩
  go_wp2_with fail
  refine (rshort_any _ _ _ _ hb).mono ?_
  rintro e w' ⟨rfl, rfl⟩
  go_wp2_with fail
  refine (rmatch_any A B c d a b _ ha hb H.out H2.out).mono ?_
  rintro e w1 ⟨A1, c1, rfl, -, hc1, hc2, hrd, hbel⟩
  have HM := Lib.hid hrd; have HB := Lib.hid hbel; clear hrd hbel
  go_wp2_with fail
  go_loopw [5, 7] (fun v i wr => ∃ (k : Nat), k ≤ a.length ∧ i = .int .i64 k ∧ Hid (wr.ownsRow w1.heap.size 9 1 v (Sq.comTo a b k).length ((Sq.comTo a b k).map Value.string)) ∧ Hid (Below w1.heap.size w1 wr)) (fun _ i _ => a.length - (intOf i).toNat)
  case atStart => exact ⟨0, Nat.zero_le _, rfl, by rw [Sq.comTo_zero]; exact World.ownsRow_nil _ _ _ _, Below.refl _ _⟩
  case round =>
    obtain ⟨k, hk, rfl, hown, hbel⟩ := hrel
    by_cases hlt : k < a.length
    · have hsz : w1.heap.size ≤ wr.heap.size := hbel.out.size
      have hcl : (Sq.comTo a b k).length ≤ 2000 := by have := Sq.comTo_len a b k; omega
      obtain ⟨g, off, rfl, hg, hcg0⟩ := RetI.at_ (w' := w1) (n := 0) HM.out hlt
      have hcg := (hbel.out.cell (p := ⟨g, off + k, none⟩) hg).trans hcg0; clear hcg0
      obtain ⟨ba, oa, rfl, hba, hca0⟩ := H.out.map_at hlt
      have hca := ((HB.out.trans (hbel.out.mono HB.out.size)).cell (p := ⟨ba, oa + k, none⟩) hba).trans hca0
      clear hca0
      have hba2 : ba < wr.heap.size := by have := HB.out.size; omega
      rcases hq : Sq.asg (Sq.mt a b 0 0) k with _ | q
      · have HE := Lib.hid (Sq.comTo_none hq)
        rw [hq] at hcg
        simp only [Sq.idx] at hcg
        have HQ := Lib.hid hq; clear hq
        go_wp2_with fail
        refine ⟨⟨k + 1, hlt, by go_num, ?_, hbel⟩, by simp [intOf]; omega⟩
        rw [HE.out]; exact hown
      · have HE := Lib.hid (Sq.comTo_some hlt hq)
        rw [hq] at hcg
        simp only [Sq.idx] at hcg
        have HQ := Lib.hid hq; clear hq
        go_wp2_with (at_builtin; refine wpList_app1 rfl (.tmp 30) (.tmp 35) 22 rfl Try.underlying22 info_str rfl (by decide) w1.heap.size _ (Sq.comTo a b k).length _ _ _ rfl (by simp [Value.oneCell']) rfl rfl (by simp) (by exact hown.out) hsz (by omega) (by omega) ?_; intro v1 w2 hown1 hb1)
        refine ⟨⟨k + 1, hlt, by go_num, ?_, hbel.out.trans hb1⟩, by simp [intOf]; omega⟩
        show w2.ownsRow _ _ _ _ _ _
        rw [HE.out, List.map_append, List.length_append]
        exact hown1
    · obtain rfl : k = a.length := by omega
      go_wp2
      go_ret
      have := hown.out
      rw [Sq.comTo_end] at this
      exact retSl_own ⟨_, rfl, own_base this HB.out.size, HB.out.trans (hbel.out.mono HB.out.size)⟩
end Go.Proofs.Ytkklpmfjbkapiaa
