import Derived.Test.YtniklmikdkjgiaaGreatDoorCXH
import Derived.Laws.BytesArg
import Derived.Deep.RegionHeld
import Derived.Great.BuildSlice
set_option linter.all false
set_option maxHeartbeats 16000000
set_option maxRecDepth 100000
namespace Go.Proofs.YtniklmikdkjgiaaGreatDoor
open Go.RowKit
theorem digit_at : ∀ d : Nat, d < 10 → (⟨#[48, 49, 50, 51, 52, 53, 54, 55, 56, 57]⟩ : ByteArray).extract d (d + 1) = ⟨#[Dg.decd d]⟩ := by
 intro d hd
 apply ByteArray.ext
 apply Array.ext'
 rw [ext_list]
 rcases d with _ | _ | _ | _ | _ | _ | _ | _ | _ | _ | d
 all_goals first | (exfalso; omega) | rfl
theorem mk_app (a b : List UInt8) : ((⟨a.toArray⟩ : ByteArray) ++ (⟨b.toArray⟩ : ByteArray)) = ⟨(a ++ b).toArray⟩ := by
 apply ByteArray.ext
 simp [ByteArray.data_append]
end Go.Proofs.YtniklmikdkjgiaaGreatDoor
namespace Go.Proofs.YtniklmikdkjgiaaGreatDoor
open Go.RowKit
def DigitSaid (b : UInt8) (e : Ending) : Prop := ∃ v : Int, e = .returned (.int .i64 v) ∧ decide (v < 0) = !Dg.isHex b
theorem digit_mk {b : UInt8} {v : Int} (h : decide (v < 0) = !Dg.isHex b) : DigitSaid b (.returned (.int .i64 v)) := ⟨v, rfl, h⟩
theorem digit_any (b : UInt8) (w : World) : Calls Tryz.prog 183 #[.int .u8 (b.toNat : Int)] w fun e w' => DigitSaid b e ∧ w = w' := by
 have hb := b.toNat_lt
 have HX : Hid (Dg.isHex b = ((decide (48 ≤ b.toNat) && decide (b.toNat ≤ 57)) || (decide (97 ≤ b.toNat) && decide (b.toNat ≤ 102)))) := Lib.hid rfl
 generalize b.toNat = n at *
 by_cases h1 : 48 ≤ n ∧ n ≤ 57
 ·have i1 : (48 : Int) ≤ (n : Int) := by omega
  have i2 : (n : Int) ≤ 57 := by omega
  have w1 : IntKind.u8.wrap ((n : Int) - 48) = (n : Int) - 48 := by rw [IntKind.wrap]; simp [IntKind.signed, IntKind.bits]; omega
  have w2 : IntKind.i64.wrap ((n : Int) - 48) = (n : Int) - 48 := IntWalk.i64_in _ (by omega)
  have e1 : decide ((n : Int) - 48 < 0) = !Dg.isHex b := by rw [HX.out]; simp [h1.1, h1.2]; omega
  go_enter Tryz.func183, Tryz.ntmps183
  go_wp2_with fail
  go_ret
  exact ⟨digit_mk e1, rfl⟩
 ·by_cases h2 : 97 ≤ n ∧ n ≤ 102
  ·have i1 : (48 : Int) ≤ (n : Int) := by omega
   have i2 : ¬ (n : Int) ≤ 57 := by omega
   have i3 : (97 : Int) ≤ (n : Int) := by omega
   have i4 : (n : Int) ≤ 102 := by omega
   have w1 : IntKind.u8.wrap ((n : Int) - 97) = (n : Int) - 97 := by rw [IntKind.wrap]; simp [IntKind.signed, IntKind.bits]; omega
   have w2 : IntKind.i64.wrap ((n : Int) - 97) = (n : Int) - 97 := IntWalk.i64_in _ (by omega)
   have w3 : IntKind.i64.wrap ((n : Int) - 97 + 10) = (n : Int) - 97 + 10 := IntWalk.i64_in _ (by omega)
   have e1 : decide ((n : Int) - 97 + 10 < 0) = !Dg.isHex b := by rw [HX.out]; simp [h2.1, h2.2]; omega
   go_enter Tryz.func183, Tryz.ntmps183
   go_wp2_with fail
   go_ret
   exact ⟨digit_mk e1, rfl⟩
  ·have e1 : decide ((-1 : Int) < 0) = !Dg.isHex b := by
    rw [HX.out]
    have a1 : ¬ (48 ≤ n ∧ n ≤ 57) := h1
    simp
    constructor <;> omega
   by_cases c1 : 48 ≤ n
   ·have i1 : (48 : Int) ≤ (n : Int) := by omega
    have i2 : ¬ (n : Int) ≤ 57 := by omega
    by_cases c2 : 97 ≤ n
    ·have i3 : (97 : Int) ≤ (n : Int) := by omega
     have i4 : ¬ (n : Int) ≤ 102 := by omega
     go_enter Tryz.func183, Tryz.ntmps183
     go_wp2_with fail
     go_ret
     exact ⟨digit_mk e1, rfl⟩
    ·have i3 : ¬ (97 : Int) ≤ (n : Int) := by omega
     go_enter Tryz.func183, Tryz.ntmps183
     go_wp2_with fail
     go_ret
     exact ⟨digit_mk e1, rfl⟩
   ·have i1 : ¬ (48 : Int) ≤ (n : Int) := by omega
    have i3 : ¬ (97 : Int) ≤ (n : Int) := by omega
    go_enter Tryz.func183, Tryz.ntmps183
    go_wp2_with fail
    go_ret
    exact ⟨digit_mk e1, rfl⟩
theorem isD_bad {s : ByteArray} {k : Nat} (hk : k < s.size) (h : Dg.isHex s[k] = false) : Dg.isD s.data.toList = false := by
 unfold Dg.isD
 rw [Bool.and_eq_false_iff]
 refine .inr ?_
 rw [List.all_eq_false]
 exact ⟨s[k], by rw [show s[k] = s.data.toList[k]'(by rw [← Lib.size_eq]; exact hk) from rfl]; exact List.getElem_mem _, by rw [h]; simp⟩
theorem isD_good {s : ByteArray} (h16 : s.size = 16) (h : ∀ j (_ : j < 16) (hj : j < s.size), Dg.isHex s[j] = true) : Dg.isD s.data.toList = true := by
 unfold Dg.isD
 rw [Bool.and_eq_true, List.all_eq_true]
 refine ⟨by rw [← Lib.size_eq]; simpa using h16, fun x hx => ?_⟩
 obtain ⟨i, hi, rfl⟩ := List.mem_iff_getElem.1 hx
 have hi2 : i < s.size := by rw [Lib.size_eq]; exact hi
 exact h i (by omega) hi2
theorem ris_any (s : ByteArray) (w : World) (hs : s.size ≤ 9223372036854775807) :
  Calls Tryz.prog 161 #[.string s] w fun e w' => e = .returned (.bool (Dg.isD s.data.toList)) ∧ w = w' := by
 go_enter Tryz.func161, Tryz.ntmps161
 go_wp2_with fail
 go_loop [3] (fun i => ∃ k : Nat, i = .int .i64 k ∧ k ≤ 16 ∧ k ≤ s.size ∧ Hid (∀ j (_ : j < k) (hj : j < s.size), Dg.isHex s[j] = true)) (fun i => 16 - (intOf i).toNat)
 case atStart => exact ⟨0, rfl, by omega, by omega, by intro j h; omega⟩
 case round =>
  obtain ⟨k, rfl, hk1, hk2, hok⟩ := hrel
  by_cases h1 : k < s.size
  ·have i1 : (k : Int) < (s.size : Int) := by omega
   by_cases h2 : k < 16
   ·have i2 : (k : Int) < 16 := by omega
    have k8 : IntKind.i64.wrap ((k : Int) + 1) = (k : Int) + 1 := IntWalk.i64_in _ (by omega)
    go_wp2_with fail
    refine (digit_any _ _).mono ?_
    rintro e w' ⟨⟨v, rfl, hv⟩, rfl⟩
    rcases hx : Dg.isHex s[k] with _ | _
    ·rw [hx] at hv
     have EF := Lib.hid (isD_bad h1 hx)
     have v1 : v < 0 := by simpa using hv
     clear hv hx hok
     go_wp2_with fail
     go_ret
     exact ⟨by rw [EF.out]; rfl, rfl⟩
    ·rw [hx] at hv
     have v1 : ¬ v < 0 := by simpa using hv
     have HX := Lib.hid hx
     clear hv hx
     go_wp2_with fail
     go_round
     case rel => exact ⟨k + 1, by go_num, by omega, by omega, fun j hj h => by
      rcases Nat.lt_succ_iff_lt_or_eq.1 hj with h3 | rfl
      ·exact hok.out j h3 h
      ·exact HX.out⟩
     case measure => simp [intOf]; omega
   ·have i2 : ¬ (k : Int) < 16 := by omega
    have n16 : s.size ≠ 16 := by omega
    have EF := Lib.hid (Dg.isD_long (l := s.data.toList) (by rw [← Lib.size_eq]; exact n16))
    have d3 : ((s.size : Int) == 16) = false := by simp; omega
    go_wp2_with fail
    go_ret
    exact ⟨by rw [EF.out]; rfl, rfl⟩
  ·have i1 : ¬ (k : Int) < (s.size : Int) := by omega
   by_cases h16 : s.size = 16
   ·have EF := Lib.hid (isD_good h16 (fun j hj h => hok.out j (by omega) h))
    have d3 : ((s.size : Int) == 16) = true := by simp; omega
    clear hok
    go_wp2_with fail
    go_ret
    exact ⟨by rw [EF.out]; rfl, rfl⟩
   ·have EF := Lib.hid (Dg.isD_long (l := s.data.toList) (by rw [← Lib.size_eq]; exact h16))
    have d3 : ((s.size : Int) == 16) = false := by simp; omega
    go_wp2_with fail
    go_ret
    exact ⟨by rw [EF.out]; rfl, rfl⟩
end Go.Proofs.YtniklmikdkjgiaaGreatDoor
namespace Go.Proofs.YtniklmikdkjgiaaGreatDoor
open Go.RowKit
theorem let_all : ∀ n : Fin 256, At.letterB n.val.toUInt8 = ((decide ((97 : Int) ≤ (n.val : Int)) && decide ((n.val : Int) ≤ 122)) || (decide ((65 : Int) ≤ (n.val : Int)) && decide ((n.val : Int) ≤ 90))) := by decide +kernel
theorem let_int (c : UInt8) : At.letterB c = ((decide ((97 : Int) ≤ (c.toNat : Int)) && decide ((c.toNat : Int) ≤ 122)) || (decide ((65 : Int) ≤ (c.toNat : Int)) && decide ((c.toNat : Int) ≤ 90))) := by
 have := let_all ⟨c.toNat, c.toNat_lt⟩
 simpa using this
theorem tail_all : ∀ n : Fin 256, At.tailB n.val.toUInt8 = (At.letterB n.val.toUInt8 || (decide ((48 : Int) ≤ (n.val : Int)) && decide ((n.val : Int) ≤ 57)) || ((n.val : Int) == 95)) := by decide +kernel
theorem tail_int (c : UInt8) : At.tailB c = (At.letterB c || (decide ((48 : Int) ≤ (c.toNat : Int)) && decide ((c.toNat : Int) ≤ 57)) || ((c.toNat : Int) == 95)) := by
 have := tail_all ⟨c.toNat, c.toNat_lt⟩
 simpa using this
theorem rletter_any (c : UInt8) (w : World) : Calls Tryz.prog 160 #[.int .u8 (c.toNat : Int)] w fun e w' => e = .returned (.bool (At.letterB c)) ∧ w' = w := by
 have LB := Lib.hid (let_int c)
 generalize At.letterB c = R at *
 generalize (c.toNat : Int) = x at *
 cases h1 : decide ((97 : Int) ≤ x) <;> cases h2 : decide (x ≤ 122) <;> cases h3 : decide ((65 : Int) ≤ x) <;> cases h4 : decide (x ≤ 90)
 all_goals
  rw [h1, h2, h3, h4] at LB
  go_enter Tryz.func160, Tryz.ntmps160
  go_wp2_with fail
  go_ret
  exact ⟨by rw [LB.out]; rfl, rfl⟩
theorem rdigit_any (c : UInt8) (w : World) : Calls Tryz.prog 182 #[.int .u8 (c.toNat : Int)] w fun e w' => e = .returned (.bool (decide ((48 : Int) ≤ (c.toNat : Int)) && decide ((c.toNat : Int) ≤ 57))) ∧ w' = w := by
 generalize (c.toNat : Int) = x at *
 cases h1 : decide ((48 : Int) ≤ x) <;> cases h2 : decide (x ≤ 57)
 all_goals
  go_enter Tryz.func182, Tryz.ntmps182
  go_wp2_with fail
  go_ret
  exact ⟨rfl, rfl⟩
theorem rword_any (c : UInt8) (w : World) : Calls Tryz.prog 159 #[.int .u8 (c.toNat : Int)] w fun e w' => e = .returned (.bool (At.tailB c)) ∧ w' = w := by
 have LB := Lib.hid (tail_int c)
 have L := Lib.hid (fun u => rletter_any c u)
 have D := Lib.hid (fun u => rdigit_any c u)
 generalize At.tailB c = R at *
 generalize At.letterB c = a at *
 generalize (decide ((48 : Int) ≤ (c.toNat : Int)) && decide ((c.toNat : Int) ≤ 57)) = b at *
 generalize (c.toNat : Int) = x at *
 cases h3 : (x == 95) <;> cases a <;> cases b
 all_goals
  rw [h3] at LB
  go_enter Tryz.func159, Tryz.ntmps159
  go_wp2_with fail
  refine (L.out _).mono ?_
  rintro e u1 ⟨rfl, rfl⟩
  go_wp2_with fail
  first
  | (go_ret; exact ⟨by rw [LB.out]; rfl, rfl⟩)
  | (refine (D.out _).mono ?_
     rintro e u1 ⟨rfl, rfl⟩
     go_wp2_with fail
     go_ret
     exact ⟨by rw [LB.out]; rfl, rfl⟩)
theorem rname_bad {s : Tx} {i : Nat} (h : i < s.length) (hc : At.tailB s[i] = false) : At.nameB s = false := by
 refine name_false h ?_
 unfold okC
 split
 ·cases hl : At.letterB s[i]
  ·rfl
  ·unfold At.tailB at hc; rw [hl] at hc; cases hc
 ·exact hc
theorem rname_good {s : Tx} (h : ∀ i (h : i < s.length), At.tailB s[i] = true) (h0 : 0 < s.length) : At.nameB s = (decide ((s.length : Int) ≤ 24) && At.letterB s[0]) := by
 cases s with
 | nil => exact absurd h0 (Nat.lt_irrefl _)
 | cons c r =>
  unfold At.nameB
  have hr : r.all At.tailB = true := by
   rw [List.all_eq_true]
   intro x hx
   obtain ⟨i, hi, rfl⟩ := List.mem_iff_getElem.1 hx
   have := h (i + 1) (by simpa using hi)
   simpa using this
  show (At.letterB c && r.all At.tailB && decide (r.length + 1 ≤ 24)) = _
  rw [hr, Bool.and_true, Bool.and_comm]
  congr 1
  simp only [List.length_cons, decide_eq_decide]
  omega
theorem rname_any (s : Tx) (w : World) (hs : s.length ≤ 9223372036854775807) :
  Calls Tryz.prog 132 #[.string (mkB s)] w fun e w' => e = .returned (.bool (At.nameB s)) ∧ w' = w := by
 have ms := mkB_len s
 obtain ⟨n, hn⟩ : ∃ n, s.length = n := ⟨_, rfl⟩
 have HN := Lib.hid hn
 rw [hn] at hs ms
 clear hn
 go_enter Tryz.func132, Tryz.ntmps132
 go_wp2_with fail
 go_loop [3] (fun i => ∃ k : Nat, k ≤ n ∧ i = .int .i64 (k : Int) ∧ Hid (∀ i (h : i < s.length), i < k → At.tailB s[i] = true)) (fun i => n - (intOf i).toNat)
 case atStart => exact ⟨0, Nat.zero_le _, rfl, Lib.hid (fun i _ h => absurd h (Nat.not_lt_zero _))⟩
 case round =>
  obtain ⟨k, hk, rfl, AL⟩ := hrel
  by_cases hlt : k < n
  ·have hkl : k < s.length := by have := HN.out; omega
   have d1 : (k : Int) < (n : Int) := by omega
   have d2 : (0 : Int) ≤ (k : Int) := by omega
   have k8 : IntKind.i64.wrap ((k : Int) + 1) = (k : Int) + 1 := IntWalk.i64_in _ (by omega)
   have tg := tl_get s hkl
   have WD := Lib.hid (fun u => rword_any s[k] u)
   have ALn : Hid (At.tailB s[k] = true → ∀ i (h : i < s.length), i < k + 1 → At.tailB s[i] = true) := Lib.hid (fun hc i hi hik => by
    rcases Nat.lt_succ_iff_lt_or_eq.1 hik with h1 | h1
    ·exact AL.out i hi h1
    ·subst h1; exact hc)
   have NF : Hid (At.tailB s[k] = false → At.nameB s = false) := Lib.hid (rname_bad hkl)
   clear AL
   generalize s[k] = c at *
   go_wp2_with fail
   refine (WD.out _).mono ?_
   rintro e u1 ⟨rfl, rfl⟩
   cases hc : At.tailB c
   ·have N2 := Lib.hid (NF.out hc)
    clear NF ALn hc
    go_wp2_with fail
    go_ret
    exact ⟨by rw [N2.out]; rfl, rfl⟩
   ·have A2 := Lib.hid (ALn.out hc)
    clear NF ALn hc
    go_wp2_with fail
    go_round
    case rel => exact ⟨k + 1, by omega, by go_num, A2⟩
    case measure => simp [intOf]; omega
  ·obtain rfl : k = n := by omega
   by_cases h0 : k = 0
   ·subst h0
    have N2 : Hid (At.nameB s = false) := Lib.hid (by
     have : s = [] := List.eq_nil_of_length_eq_zero HN.out
     rw [this]; rfl)
    clear AL
    go_wp2_with fail
    go_ret
    exact ⟨by rw [N2.out]; rfl, rfl⟩
   ·have hp : 0 < s.length := by have := HN.out; omega
    have NG := Lib.hid (rname_good (fun i h => AL.out i h (by have := HN.out; omega)) hp)
    rw [HN.out] at NG
    have tg := tl_get s hp
    have LD := Lib.hid (fun u => rletter_any s[0] u)
    have d0 : (0 : Int) < (k : Int) := by omega
    have dk : decide ((k : Int) < (k : Int)) = false := by simp
    generalize s[0] = c at *
    clear AL h0 hlt
    cases h24 : decide ((k : Int) ≤ 24)
    ·rw [h24] at NG
     go_wp2_with fail
     go_ret
     exact ⟨by rw [NG.out]; rfl, rfl⟩
    ·rw [h24] at NG
     go_wp2_with fail
     refine (LD.out _).mono ?_
     rintro e u1 ⟨rfl, rfl⟩
     go_wp2_with fail
     go_ret
     exact ⟨by rw [NG.out]; rfl, rfl⟩
end Go.Proofs.YtniklmikdkjgiaaGreatDoor
namespace Go.Proofs.YtniklmikdkjgiaaGreatDoor
open Go.RowKit
theorem r8dec_any : ∀ (N : Nat), N ≤ 9223372036854775807 → ∀ w : World, Calls Tryz.prog 187 #[.int .i64 (N : Int)] w fun e w' => e = .returned (.string (mkB (Dg.dec N))) ∧ w' = w := by
 intro N
 induction N using Nat.strongRecOn with
 | _ N ih =>
 intro hN w
 by_cases h10 : N < 10
 ·have d1 : (N : Int) < 10 := by omega
  have DA := digit_at N h10
  have zz : (⟨#[48, 49, 50, 51, 52, 53, 54, 55, 56, 57]⟩ : ByteArray).size = 10 := rfl
  have x2 : ((N : Int) + 1).toNat = N + 1 := by omega
  have x3 : (N : Int) + 1 ≤ 10 := by omega
  have x4 : (N : Int) ≤ (N : Int) + 1 := by omega
  have k8 : IntKind.i64.wrap ((N : Int) + 1) = (N : Int) + 1 := IntWalk.i64_in _ (by omega)
  have DE : Hid (mkB (Dg.dec N) = ⟨#[Dg.decd N]⟩) := Lib.hid (by rw [Dg.dec_one h10]; rfl)
  clear ih h10
  go_enter Tryz.func187, Tryz.ntmps187
  go_wp2_with fail
  go_ret
  exact ⟨by rw [DE.out]; rfl, rfl⟩
 ·have d1 : ¬ (N : Int) < 10 := by omega
  have IH1 := Lib.hid (fun u => ih (N / 10) (by omega) (by omega) u)
  have IH2 := Lib.hid (fun u => ih (N % 10) (by omega) (by omega) u)
  have m1 : (N : Int) / 10 = ((N / 10 : Nat) : Int) := by omega
  have m2 : (N : Int) % 10 = ((N % 10 : Nat) : Int) := by omega
  have m3 : (N : Int).tdiv 10 = ((N / 10 : Nat) : Int) := by rw [Int.tdiv_eq_ediv_of_nonneg (by omega)]; exact m1
  have m4 : (N : Int).tmod 10 = ((N % 10 : Nat) : Int) := by rw [Int.tmod_eq_emod_of_nonneg (by omega)]; exact m2
  have DE : Hid (mkB (Dg.dec N) = mkB (Dg.dec (N / 10) ++ Dg.dec (N % 10))) := Lib.hid (by rw [Dg.dec_more h10, Dg.dec_one (show N % 10 < 10 from Nat.mod_lt _ (by decide))])
  have z1 := dec_len 20 (N / 10) (by omega) (by decide)
  have z2 := dec_len 20 (N % 10) (by omega) (by decide)
  generalize hq : N / 10 = q at *
  generalize hr : N % 10 = r at *
  have w1 : IntKind.i64.wrap (q : Int) = (q : Int) := IntWalk.i64_in _ (by omega)
  have w2 : IntKind.i64.wrap (r : Int) = (r : Int) := IntWalk.i64_in _ (by omega)
  have l1 := mkB_len (Dg.dec q)
  have l2 := mkB_len (Dg.dec r)
  generalize Dg.dec q = a at *
  generalize Dg.dec r = b at *
  have a1 : ∀ W : World, (Op.stringOp .add (mkB a) (mkB b)).run Tryz.prog W = .ok (.string (mkB (a ++ b))) W := fun W => by
   rw [run_string_add_sum W _ _ (by rw [l1, l2]; omega)]
   exact congrArg (fun b => Result.ok (Value.string b) W) (mk_app a b)
  clear ih h10 hq hr z1 z2 m1 m2
  go_enter Tryz.func187, Tryz.ntmps187
  go_wp2_with fail
  refine (IH1.out _).mono ?_
  rintro e u1 ⟨rfl, rfl⟩
  go_wp2_with fail
  refine (IH2.out _).mono ?_
  rintro e u1 ⟨rfl, rfl⟩
  go_wp2_with fail
  go_ret
  exact ⟨by rw [DE.out]; rfl, rfl⟩
end Go.Proofs.YtniklmikdkjgiaaGreatDoor
namespace Go.Proofs.YtniklmikdkjgiaaGreatDoor
open Go.RowKit
theorem mkB_ext (s : Tx) (a b : Nat) : (mkB s).extract a b = mkB ((s.take b).drop a) := by
 rw [← mkB_of ((mkB s).extract a b), ext_list, mkB_list]
theorem seg_step {s : Tx} {k q : Nat} (h : k < s.length) (hq : q ≤ k) : (s.take (k + 1)).drop q = (s.take k).drop q ++ [s[k]] := by
 rw [List.take_succ_eq_append_getElem h, List.drop_append_of_le_length (by rw [List.length_take]; omega)]
theorem seg_len (s : Tx) (k q : Nat) : ((s.take k).drop q).length ≤ k := by rw [List.length_drop, List.length_take]; omega
theorem rquote_any (s : Tx) (w : World) (hs : s.length ≤ 1000000) :
  Calls Tryz.prog 188 #[.string (mkB s)] w fun e w' => e = .returned (.string (mkB (quoteF s))) ∧ w' = w := by
 have ms := mkB_len s
 obtain ⟨n, hn⟩ : ∃ n, s.length = n := ⟨_, rfl⟩
 have HN := Lib.hid hn
 rw [hn] at hs ms
 clear hn
 go_enter Tryz.func188, Tryz.ntmps188
 go_wp2_with fail
 go_loop [3, 4, 5] (fun o f i => ∃ (k q : Nat) (t : Tx), k ≤ n ∧ i = .int .i64 (k : Int) ∧ f = .int .i64 (q : Int) ∧ q ≤ k ∧ o = .string (mkB t) ∧ Hid (t ++ (s.take k).drop q = 34 :: (s.take k).flatMap esc) ∧ t.length ≤ 1 + 2 * k) (fun _ _ i => n - (intOf i).toNat)
 case atStart => exact ⟨0, 0, [34], Nat.zero_le _, rfl, rfl, Nat.le_refl _, rfl, Lib.hid (by simp), by simp⟩
 case round =>
  obtain ⟨k, q, t, hk, rfl, rfl, hq, rfl, TI, tl⟩ := hrel
  have mt := mkB_len t
  have ex := mkB_ext s q k
  have sl := seg_len s k q
  have ml := mkB_len ((s.take k).drop q)
  by_cases hlt : k < n
  ·have hkl : k < s.length := by have := HN.out; omega
   have d1 : (k : Int) < (n : Int) := by omega
   have d2 : (0 : Int) ≤ (k : Int) := by omega
   have d3 : (q : Int) ≤ (k : Int) := by omega
   have d4 : (0 : Int) ≤ (q : Int) := by omega
   have d5 : (k : Int) ≤ (n : Int) := by omega
   have k8 : IntKind.i64.wrap ((k : Int) + 1) = (k : Int) + 1 := IntWalk.i64_in _ (by omega)
   have tg := tl_get s hkl
   have SS := Lib.hid (seg_step hkl hq)
   have ET := Lib.hid (escs_take hkl)
   have S1 : Hid ((s.take (k + 1)).drop (k + 1) = []) := Lib.hid (List.drop_eq_nil_of_le (by rw [List.length_take]; omega))
   have S2 : Hid ((s.take (k + 1)).drop k = [s[k]]) := Lib.hid (by rw [seg_step hkl (Nat.le_refl k), List.drop_eq_nil_of_le (by rw [List.length_take]; omega)]; rfl)
   have TG : t.length + ((s.take k).drop q).length ≤ 1 + 2 * k := by
    have e := congrArg List.length TI.out
    have e2 := escs_len (s.take k)
    rw [List.length_take] at e2
    rw [List.length_append, List.length_cons] at e
    omega
   generalize s[k] = c at *
   generalize (s.take k).drop q = g at *
   by_cases h10 : c = 10
   ·have e1 : ((c.toNat : Int) == 10) = true := by rw [h10]; rfl
    have EC : Hid (esc c = [92, 110]) := Lib.hid (by unfold esc; rw [if_pos h10])
    clear h10
    go_wp2_with fail
    go_round
    case rel =>
     refine ⟨k + 1, k + 1, t ++ g ++ [92, 110], by omega, by go_num, by go_num, Nat.le_refl _, ?_, Lib.hid (by rw [S1.out, List.append_nil, TI.out, ET.out, EC.out]; rfl), ?_⟩
     ·first
       | rfl
       | (rw [← mkB_app, ← mkB_app]; rfl)
       | (rw [ex, ← mkB_app, ← mkB_app]; rfl)
     ·rw [List.length_append, List.length_append]; simp; omega
    case measure => simp [intOf]; omega
   ·have e1 : ((c.toNat : Int) == 10) = false := by
     have : c.toNat ≠ 10 := fun h => h10 (UInt8.toNat_inj.1 h)
     simp; omega
    by_cases h34 : c = 34 ∨ c = 92
    ·have EC : Hid (esc c = [92, c]) := Lib.hid (by unfold esc; rw [if_neg h10, if_pos h34])
     have FIN : Hid (t ++ g ++ [92] ++ (s.take (k + 1)).drop k = 34 :: (s.take (k + 1)).flatMap esc) := Lib.hid (by rw [S2.out, ET.out, EC.out, TI.out]; simp)
     have LEN : (t ++ g ++ [92]).length ≤ 1 + 2 * (k + 1) := by rw [List.length_append, List.length_append]; simp; omega
     by_cases h3 : c = 34
     ·have e2 : ((c.toNat : Int) == 34) = true := by rw [h3]; rfl
      clear h34 h10 h3
      go_wp2_with fail
      go_round
      case rel =>
       refine ⟨k + 1, k, t ++ g ++ [92], by omega, by go_num, by go_num, by omega, ?_, FIN, LEN⟩
       first
        | rfl
        | (rw [← mkB_app, ← mkB_app]; rfl)
        | (rw [ex, ← mkB_app, ← mkB_app]; rfl)
      case measure => simp [intOf]; omega
     ·have e2 : ((c.toNat : Int) == 34) = false := by
       have : c.toNat ≠ 34 := fun h => h3 (UInt8.toNat_inj.1 h)
       simp; omega
      have e3 : ((c.toNat : Int) == 92) = true := by
       rcases h34 with h | h
       ·exact absurd h h3
       ·rw [h]; rfl
      clear h34 h10 h3
      go_wp2_with fail
      go_round
      case rel =>
       refine ⟨k + 1, k, t ++ g ++ [92], by omega, by go_num, by go_num, by omega, ?_, FIN, LEN⟩
       first
        | rfl
        | (rw [← mkB_app, ← mkB_app]; rfl)
        | (rw [ex, ← mkB_app, ← mkB_app]; rfl)
      case measure => simp [intOf]; omega
    ·have EC : Hid (esc c = [c]) := Lib.hid (by unfold esc; rw [if_neg h10, if_neg h34])
     have e2 : ((c.toNat : Int) == 34) = false := by
      have : c.toNat ≠ 34 := fun h => h34 (.inl (UInt8.toNat_inj.1 h))
      simp; omega
     have e3 : ((c.toNat : Int) == 92) = false := by
      have : c.toNat ≠ 92 := fun h => h34 (.inr (UInt8.toNat_inj.1 h))
      simp; omega
     have FIN : Hid (t ++ (s.take (k + 1)).drop q = 34 :: (s.take (k + 1)).flatMap esc) := Lib.hid (by rw [SS.out, ← List.append_assoc, TI.out, ET.out, EC.out]; simp)
     clear h34 h10
     go_wp2_with fail
     go_round
     case rel => exact ⟨k + 1, q, t, by omega, by go_num, rfl, by omega, rfl, FIN, by omega⟩
     case measure => simp [intOf]; omega
  ·have d1 : ¬ (k : Int) < (n : Int) := by omega
   have kn : k = n := by omega
   have d4 : (0 : Int) ≤ (q : Int) := by omega
   have d5 : (q : Int) ≤ (n : Int) := by omega
   have ex2 := mkB_ext s q n
   have TT : Hid (s.take k = s) := Lib.hid (List.take_of_length_le (by have := HN.out; omega))
   rw [TT.out] at TI
   have TN : s.take n = s := List.take_of_length_le (by have := HN.out; omega)
   rw [TN] at ex2
   have FE : Hid (quoteF s = t ++ s.drop q ++ [34]) := Lib.hid (by rw [TI.out]; rfl)
   have es := escs_len s
   have el := congrArg List.length TI.out
   rw [List.length_append, List.length_cons] at el
   have md := mkB_len (s.drop q)
   have ld : (s.drop q).length ≤ n := by rw [List.length_drop]; have := HN.out; omega
   have zz : (mkB (s.drop q)).size ≤ 1000000 := by omega
   have zt : (mkB t).size ≤ 2000001 := by omega
   clear TT ex TN kn el es hlt md ld mt
   go_wp2_with fail
   go_ret
   refine ⟨?_, rfl⟩
   rw [FE.out, ← mkB_app, ← mkB_app]
   first
    | rfl
    | (rw [ex2]; rfl)
end Go.Proofs.YtniklmikdkjgiaaGreatDoor
namespace Go.Proofs.YtniklmikdkjgiaaGreatDoor
open Go.RowKit
theorem joinL_snoc (sep : Tx) (a : Tx) : ∀ L : List Tx, joinL (L ++ [a]) sep = (if L = [] then a else joinL L sep ++ sep ++ a)
 | [] => by simp [joinL, Lib.join]
 | x :: L => by
  rw [if_neg (by simp)]
  unfold joinL
  rw [List.cons_append, Lib.join_cons, Lib.join_cons]
  simp [Lib.joinTail]
theorem joinL_take {L : List Tx} {k : Nat} (sep : Tx) (h : k < L.length) : joinL (L.take (k + 1)) sep = (if k = 0 then [] else joinL (L.take k) sep ++ sep) ++ L[k] := by
 rw [List.take_succ_eq_append_getElem h, joinL_snoc]
 cases k with
 | zero => simp
 | succ k =>
  have : L.take (k + 1) ≠ [] := by
   intro e
   have := congrArg List.length e
   rw [List.length_take, Nat.min_eq_left (by omega)] at this
   simp at this
  rw [if_neg this, if_neg (by omega)]
theorem rwords_any (A : Option Addr) (n c : Nat) (l : List Tx) (w : World) (hn : n = l.length) (hl : n ≤ 10000) (hs : ∀ s ∈ l, s.length ≤ 1000000) (h : Rd w A (strsC l)) :
  Calls Tryz.prog 186 #[.slice A n c] w fun e w' => e = .returned (.string (mkB (joinL l [32]))) ∧ w' = w := by
 have H := Lib.hid h
 have HN := Lib.hid hn
 have HS := Lib.hid hs
 have JL : Hid (∀ k, (joinL (l.take k) [32]).length ≤ 10001 * 1000001) := Lib.hid (fun k => by
  refine Nat.le_trans (join_len [32] 1000000 (l.take k) (fun t ht => hs t (List.mem_of_mem_take ht))) ?_
  have : (l.take k).length ≤ 10000 := by rw [List.length_take]; omega
  simp only [List.length_singleton]
  exact Nat.le_trans (Nat.mul_le_mul_right _ this) (by decide))
 clear h hn hs
 go_enter Tryz.func186, Tryz.ntmps186
 go_wp2_with fail
 go_loopw [3, 4] (fun s3 s4 wr => ∃ k : Nat, k ≤ n ∧ s4 = .int .i64 (k : Int) ∧ s3 = .string (mkB (joinL (l.take k) [32])) ∧ Hid (wr = w)) (fun _ i _ => n - (intOf i).toNat)
 case atStart => exact ⟨0, Nat.zero_le _, rfl, by rw [List.take_zero]; rfl, Lib.hid rfl⟩
 case round =>
  obtain ⟨k, hkn, rfl, rfl, EW⟩ := hrel
  have J1 := JL.out k
  have mj := mkB_len (joinL (l.take k) [32])
  by_cases hlt : k < n
  ·have hkl : k < l.length := by rw [← HN.out]; exact hlt
   have d1 : (k : Int) < (n : Int) := by omega
   have d2 : (0 : Int) ≤ (k : Int) := by omega
   obtain ⟨b, off, rfl, hb, c0⟩ := strs_at H.out hkl
   rw [← EW.out] at c0
   have TK := Lib.hid (joinL_take [32] hkl)
   have hz := HS.out l[k] (List.getElem_mem hkl)
   have mz := mkB_len l[k]
   have J0 : Hid (k = 0 → joinL (l.take k) [32] = []) := Lib.hid (fun e => by subst e; rfl)
   generalize l[k] = s at *
   generalize joinL (l.take k) [32] = J at *
   have zj : (mkB J).size ≤ 10001 * 1000001 := by omega
   have zs : (mkB s).size ≤ 1000000 := by omega
   clear J1 mj hz mz
   by_cases h0 : k = 0
   ·have d3 : ¬ (0 : Int) < (k : Int) := by omega
    have T2 : Hid (joinL (l.take (k + 1)) [32] = s) := Lib.hid (by rw [TK.out, if_pos h0]; rfl)
    have JE := J0.out h0
    subst JE
    clear TK h0 J0
    go_wp2_with fail
    refine ⟨⟨k + 1, by omega, by go_num, ?_, EW⟩, by simp [intOf]; omega⟩
    rw [T2.out]
    first
     | rfl
     | (show Value.string (mkB [] ++ mkB s) = _; rw [mkB_app]; rfl)
   ·have d3 : (0 : Int) < (k : Int) := by omega
    have T2 : Hid (joinL (l.take (k + 1)) [32] = J ++ [32] ++ s) := Lib.hid (by rw [TK.out, if_neg h0])
    clear TK h0
    go_wp2_with fail
    refine ⟨⟨k + 1, by omega, by go_num, ?_, EW⟩, by simp [intOf]; omega⟩
    rw [T2.out, ← mkB_app, ← mkB_app]; rfl
  ·have d1 : ¬ (k : Int) < (n : Int) := by omega
   have TE : Hid (l.take k = l) := Lib.hid (List.take_of_length_le (by rw [← HN.out]; omega))
   rw [TE.out]
   go_wp2_with fail
   go_ret
   exact ⟨rfl, EW.out⟩
end Go.Proofs.YtniklmikdkjgiaaGreatDoor
