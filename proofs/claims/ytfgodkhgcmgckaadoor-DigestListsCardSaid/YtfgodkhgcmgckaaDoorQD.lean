/- WALK: DigestForm. -/
import Derived.Test.YtfgodkhgcmgckaaDoorQC
set_option linter.unusedSimpArgs false
set_option linter.unusedVariables false
namespace Go.Proofs.YtfgodkhgcmgckaaDoor
open Go.RowKit

theorem isD_mk (l : List UInt8) : Dg.isD (⟨(Dg.sumL l).toArray⟩ : ByteArray).data.toList = true := Dg.sumL_isD l
theorem isD_put' {s : ByteArray} {k : Nat} (hk : k < s.size) : Dg.isD (s.extract 0 k ++ ⟨#[65]⟩ ++ s.extract (k + 1) s.size).data.toList = false := by
  rw [ByteArray.data_append, ByteArray.data_append, Array.toList_append, Array.toList_append, ext_list, ext_list, List.drop_zero, List.take_of_length_le (l := s.data.toList) (i := s.size) (by rw [← Lib.size_eq]; exact Nat.le_refl _), List.append_assoc]
  exact Dg.isD_put (by rw [← Lib.size_eq]; exact hk) (by decide)
theorem OldOf.under {w w1 u : World} (h : Below w.heap.size w w1) (k : OldOf w1 u) : Below w.heap.size w u := h.trans (Below.mono k h.size)
set_option maxHeartbeats 4000000 in
set_option maxRecDepth 100000 in
theorem walk_DigestForm (t : ByteArray) (A : Option Addr) (n c : Nat) (l : List ByteArray) (x : Int) (w : World) (ht0 : t.size ≤ 9223372036854775807) (hl : StrArg w A n c l) (hx0 : 0 ≤ x) (hx1 : x ≤ 255) (ht : Tab w) :
    Calls Tryd.prog 4 #[.string t, .slice A n c, .int .u8 x] w fun e w' => e = .returned (.bool true) ∧ Below w.heap.size w w' := by
  have HD := Lib.hid (head_any w ht)
  have HT := Lib.hid ht; clear ht
  obtain ⟨rfl, hnc, hc, hr⟩ := hl
  have HR := Lib.hid hr; clear hr
  obtain ⟨p, rfl⟩ : ∃ p : Nat, x = p := ⟨x.toNat, by omega⟩
  have w9 : IntKind.i64.wrap (p : Int) = (p : Int) := IntWalk.i64_in _ (by omega)
  go_enter Tryd.func4, Tryd.ntmps4
  go_wp2_with fail
  refine HD.out.mono ?_
  rintro e w1 ⟨rfl, hb1⟩
  have B1 := Lib.hid hb1; clear hb1
  by_cases h2 : 2000 < t.size
  · have h2i : (2000 : Int) < t.size := by omega
    go_wp2_with fail
    go_ret
    exact ⟨rfl, B1.out⟩
  have h2i : ¬ (2000 : Int) < t.size := by omega
  go_wp2_with fail
  refine (few_any A _ c l 200 w1 rfl (by omega) (by omega) (HR.out.below B1.out)).mono ?_
  rintro e w1' ⟨⟨b, rfl, hfew⟩, rfl⟩
  have FW := Lib.hid hfew; clear hfew
  cases b with
  | false =>
    go_wp2_with fail
    go_ret
    exact ⟨rfl, B1.out⟩
  | true =>
    obtain ⟨hl30, hs⟩ := FW.out rfl
    have HS := Lib.hid hs; clear hs FW
    go_wp2_with fail
    refine (sum_any t w1 (by omega)).mono ?_
    rintro e w2 ⟨rfl, hb2⟩
    have B2 := Lib.hid (B1.out.trans (hb2.mono B1.out.size)); clear hb2 B1
    have zs := size_mk (Dg.sumL t.data.toList)
    rw [show (Dg.sumL t.data.toList).length = 16 from Dg.hex_len _ _] at zs
    have IS := Lib.hid (isD_mk t.data.toList)
    generalize (⟨(Dg.sumL t.data.toList).toArray⟩ : ByteArray) = s at *
    obtain ⟨q, hq⟩ : ∃ q : Nat, p % 16 = q := ⟨_, rfl⟩
    have hq16 : q < 16 := by omega
    have q1 : (p : Int).tmod 16 = (q : Int) := by rw [Int.tmod_eq_emod_of_nonneg (by omega)]; omega
    have q3 : IntKind.i64.wrap ((q : Int) + 1) = (q : Int) + 1 := IntWalk.i64_in _ (by omega)
    have q4 : ((q : Int) + 1).toNat = q + 1 := by omega
    have q5 : (q : Int) ≤ 16 := by omega
    have q6 : (q : Int) + 1 ≤ 16 := by omega
    have q7 : (0 : Int) ≤ (q : Int) + 1 := by omega
    have IA := Lib.hid (fun u => is_any s u (by omega))
    have IB := Lib.hid (fun u => is_any (s ++ ⟨#[48]⟩) u (by rw [ByteArray.size_append, zs]; decide))
    have IC := Lib.hid (fun u => is_any (s.extract 1 16) u (by rw [ByteArray.size_extract, zs]; decide))
    have ze : (s.extract 0 q ++ ⟨#[65]⟩ ++ s.extract (q + 1) 16).size = 16 := by rw [ByteArray.size_append, ByteArray.size_append, ByteArray.size_extract, ByteArray.size_extract, zs, show (⟨#[65]⟩ : ByteArray).size = 1 from rfl]; omega
    have IE := Lib.hid (fun u => is_any (s.extract 0 q ++ ⟨#[65]⟩ ++ s.extract (q + 1) 16) u (by omega))
    have EP := isD_put' (s := s) (k := q) (by omega)
    rw [zs] at EP
    rw [IS.out] at IA
    rw [Dg.isD_long (l := (s ++ ⟨#[48]⟩).data.toList) (by rw [← Lib.size_eq, ByteArray.size_append, zs]; decide)] at IB
    rw [Dg.isD_long (l := (s.extract 1 16).data.toList) (by rw [← Lib.size_eq, ByteArray.size_extract, zs]; decide)] at IC
    rw [EP] at IE
    have LS : Hid (∀ u, OldOf w2 u → Calls Tryd.prog 12 #[.slice A l.length c] u fun e w' => e = .returned (.string ⟨(Dg.sumL (Dg.joined (bys l))).toArray⟩) ∧ Below u.heap.size u w') :=
      Lib.hid (fun u hu => list_any A _ c l u rfl hl30 (fun s hs => Nat.le_trans (HS.out s hs) (by decide)) (HT.out.keep (OldOf.under B2.out hu)) (HR.out.below (OldOf.under B2.out hu)))
    have zd := size_mk (Dg.sumL (Dg.joined (bys l)))
    rw [show (Dg.sumL (Dg.joined (bys l))).length = 16 from Dg.hex_len _ _] at zd
    have ID := isD_mk (Dg.joined (bys l))
    generalize (⟨(Dg.sumL (Dg.joined (bys l))).toArray⟩ : ByteArray) = d at *
    have IF := Lib.hid (fun u => is_any d u (by omega))
    rw [ID] at IF
    have a1 : ∀ u : World, (Op.stringOp .add s ⟨#[48]⟩).run Tryd.prog u = .ok (.string (s ++ ⟨#[48]⟩)) u := fun u => run_string_add_sum u _ _ (by rw [zs]; decide)
    have a2 : ∀ u : World, (Op.stringOp .add (s.extract 0 q) ⟨#[65]⟩).run Tryd.prog u = .ok (.string (s.extract 0 q ++ ⟨#[65]⟩)) u := fun u => run_string_add_sum u _ _ (by rw [ByteArray.size_extract, zs, show (⟨#[65]⟩ : ByteArray).size = 1 from rfl]; omega)
    have a3 : ∀ u : World, (Op.stringOp .add (s.extract 0 q ++ ⟨#[65]⟩) (s.extract (q + 1) 16)).run Tryd.prog u = .ok (.string (s.extract 0 q ++ ⟨#[65]⟩ ++ s.extract (q + 1) 16)) u := fun u => run_string_add_sum u _ _ (by rw [ByteArray.size_append] at ze; omega)
    have zsi : (s.size : Int) = 16 := by omega
    clear hx0 hx1 EP ze hq zd ID HD IS
    have o0 : OldOf w2 w2.drew := (OldOf.refl _).drew
    go_wp2_with fail
    go_region_held3 (fun w' => OldOf w2 w') (first | assumption | exact o2) (first | (go_at_call 12; (with_reducible refine (LS.out _ (by assumption)).mono ?_); rintro e w3 ⟨rfl, hb3⟩; have o2 := OldOf.below (by assumption) hb3) | (go_at_call 14; (first | (with_reducible refine (IA.out _).mono ?_) | (with_reducible refine (IB.out _).mono ?_) | (with_reducible refine (IC.out _).mono ?_) | (with_reducible refine (IE.out _).mono ?_) | (with_reducible refine (IF.out _).mono ?_)); rintro e w3 ⟨rfl, hb3⟩; have o2 := OldOf.below (by assumption) hb3))
    go_wp2
    go_ret
    exact ⟨rfl, B2.out.trans (Below.mono o2 B2.out.size)⟩
end Go.Proofs.YtfgodkhgcmgckaaDoor
