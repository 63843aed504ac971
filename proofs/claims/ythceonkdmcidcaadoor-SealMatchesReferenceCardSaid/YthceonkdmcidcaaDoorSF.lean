/- WALKS: the digits of a message, as an iterator. -/
import Derived.Test.YthceonkdmcidcaaDoorSE
set_option linter.unusedSimpArgs false
set_option linter.unusedVariables false
namespace Go.Proofs.YthceonkdmcidcaaDoor
open Go.RowKit Go.Shelf
attribute [local go_sem] Oper.semAt_some

theorem digits_make (m : ByteArray) (w : World) :
    Calls Tryd.prog 30 #[.string m] w fun e w' => e = .returned (.func (.func 56) #[] #[.pointer (some ⟨w.heap.size, 0, none⟩)]) ∧ w.alloc (.cells #[.string m] 9) = w' := by
  go_enter Tryd.func30, Tryd.ntmps30
  go_wp2_with fail
  go_ret
  exact ⟨rfl, rfl⟩
theorem grown_of_below {W W' : World} (h : Below W.heap.size W W') : W.grownBy W' none := ⟨h.os, h.tape, h.output, h.size, fun k hk _ => h.block k hk⟩
theorem full_get (l : List Nat) (k : Nat) (h : k < l.length) : (Sl.full l).getD k 0 = l[k] := by
  unfold Sl.full
  rw [List.getD_eq_getElem?_getD, List.getElem?_append_left h, List.getElem?_eq_getElem h]; rfl
theorem rest_snoc0 (l : List Nat) (k : Nat) (hk : k < l.length) : Sl.restF (l.take (k + 1)) = Sl.restF (l.take k) + (15 - (Sl.full l).getD k 0) := by
  rw [full_get l k hk, List.take_succ_eq_append_getElem hk, Sl.restF_append]
  rfl
theorem rest_snoc (m : List UInt8) (k : Nat) (hk : k < 16) : Sl.restF ((Sl.dgs m).take (k + 1)) = Sl.restF ((Sl.dgs m).take k) + (15 - (Sl.digs m).getD k 0) :=
  rest_snoc0 (Sl.dgs m) k (by rw [Sl.dgs_len]; exact hk)
theorem dgs_get (m : List UInt8) (k : Nat) (hk : k < (Dg.sumL m).length) : (Sl.digs m).getD k 0 = Sl.hexval ((Dg.sumL m)[k]) := by
  have h := full_get (Sl.dgs m) k (by unfold Sl.dgs; rw [List.length_map]; exact hk)
  unfold Sl.digs
  rw [h]
  simp [Sl.dgs]
theorem full_last (l : List Nat) : (Sl.full l).getD l.length 0 = Sl.restF l / 16 ∧ (Sl.full l).getD (l.length + 1) 0 = Sl.restF l % 16 := by
  unfold Sl.full
  constructor <;> simp [List.getD_eq_getElem?_getD, List.getElem?_append]
theorem digit_val : ∀ b : UInt8, Dg.isHex b = true → Lib.indexByte [48, 49, 50, 51, 52, 53, 54, 55, 56, 57, 97, 98, 99, 100, 101, 102] b = (Sl.hexval b : Int) := by
  have key : ∀ n : Fin 256, Dg.isHex (UInt8.ofNat n.val) = true → Lib.indexByte [48, 49, 50, 51, 52, 53, 54, 55, 56, 57, 97, 98, 99, 100, 101, 102] (UInt8.ofNat n.val) = (Sl.hexval (UInt8.ofNat n.val) : Int) := by decide +kernel
  intro b
  have := key ⟨b.toNat, b.toNat_lt⟩
  rwa [show UInt8.ofNat (⟨b.toNat, b.toNat_lt⟩ : Fin 256).val = b from UInt8.ofNat_toNat] at this
theorem byte_back (b : UInt8) : ((b.toNat : Int)).toNat.toUInt8 = b := by
  rw [Int.toNat_natCast]; exact UInt8.ofNat_toNat
theorem rest_take_le (m : List UInt8) (k : Nat) (hk : k ≤ 16) : Sl.restF ((Sl.dgs m).take k) ≤ 240 := by
  have := Sl.restF_le ((Sl.dgs m).take k)
  rw [List.length_take] at this; omega
theorem digs_16 (m : List UInt8) : (Sl.digs m).getD 16 0 = Sl.restF ((Sl.dgs m).take 16) / 16 ∧ (Sl.digs m).getD 17 0 = Sl.restF ((Sl.dgs m).take 16) % 16 := by
  have hl := Sl.dgs_len m
  rw [List.take_of_length_le (by omega)]
  have := full_last (Sl.dgs m)
  rw [hl] at this
  exact this
def encD (m : List UInt8) (x : Up 18) : Array Value := #[.int .i64 (x.1 : Int), .int .i64 (((Sl.digs m).getD x.1 0 : Nat) : Int)]
theorem sum_bytes (m : List UInt8) : ∃ S : ByteArray, mkB (Dg.sumL m) = S ∧ S.size = 16 ∧ ∀ k (h : k < S.size), Dg.isHex S[k] = true ∧ (Sl.digs m).getD k 0 = Sl.hexval S[k] := by
  have h2 : ∀ k (hk : k < (Dg.sumL m).length), Dg.isHex ((Dg.sumL m)[k]) = true ∧ (Sl.digs m).getD k 0 = Sl.hexval ((Dg.sumL m)[k]) := fun k hk => ⟨Sl.sumL_hex _ _ (List.getElem_mem hk), dgs_get m k hk⟩
  have h3 : (Dg.sumL m).length = 16 := isD_len (Dg.sumL_isD _)
  generalize Dg.sumL m = D at *
  exact ⟨_, rfl, by rw [mkB_size]; exact h3, fun k h => h2 k (by rw [mkB_size] at h; exact h)⟩
set_option maxRecDepth 100000 in
set_option maxHeartbeats 4000000 in
theorem digits1 (m : ByteArray) (Bm l : Nat) (hms : m.size ≤ 1000) (J Jx : List (Up 18) → World → Prop)
    (hY : ∀ pre x W, J pre W → pre.length < 18 → YieldAt Fence.wide 2 Tryd.prog l (encD m.data.toList x) W fun e W' =>
      (e = .returned (.bool true) ∧ J (pre ++ [x]) W' ∧ True) ∨ (e = .returned (.bool false) ∧ Jx (pre ++ [x]) W'))
    (W : World) (hJb : ∀ W', Below W.heap.size W W' → J [] W') (hBm : W.cell? ⟨Bm, 0, none⟩ = some (.string m)) :
    CallsIn Fence.wide 3 Tryd.prog 56 #[.func (.yield l) #[] #[], .pointer (some ⟨Bm, 0, none⟩)] W fun e W' => (∃ v, e = .returned v) ∧
      ((∃ ys : List (Up 18), ys.map (·.1) = List.range 18 ∧ J ys W') ∨ (∃ pre, True ∧ Jx pre W')) := by
  have HJ := Lib.hid hJb; clear hJb
  have HY := Lib.hid hY; clear hY
  refine callsIn_of_wp Tryd.func56 rfl trivial ?_ rfl
  simp only [Tryd.ntmps56, List.size_toArray, List.length_cons, List.length_nil, Nat.reduceAdd, Nat.reduceSub, Array.replicate_succ, Array.replicate_zero, List.push_toArray, List.append_toArray, List.nil_append, List.cons_append]
  gi_wp2_with (refine ⟨trivial, ?_⟩; gi_at_call 57; refine (callsIn_wide.2 (sumT_any m W (by omega))).mono ?_)
  rintro e w2 ⟨rfl, hb2⟩
  have HJ2 := Lib.hid (HJ.out w2 hb2); clear hb2 HJ
  obtain ⟨S, hS, z16, hB⟩ := sum_bytes m.data.toList
  rw [hS]
  have HB := Lib.hid hB; clear hB hS
  gi_wp2_with fail
  gi_loopw [3, 11] (fun r i wr => ∃ (k q : Nat) (pre : List (Up 18)), k ≤ 16 ∧ i = .int .i64 k ∧ r = .int .i64 q ∧ Hid (q = Sl.restF ((Sl.dgs m.data.toList).take k)) ∧ q ≤ 240 ∧ Hid (pre.map (·.1) = List.range k) ∧ Hid (J pre wr)) (fun _ i _ => 16 - (intOf i).toNat)
  case atStart => exact ⟨0, 0, [], by omega, rfl, rfl, Lib.hid rfl, by omega, Lib.hid rfl, HJ2⟩
  case round =>
    clear HJ2
    obtain ⟨k, q, pre, hk, rfl, rfl, hq, hq2, hp, hJs⟩ := hrel
    by_cases hlt : k < 16
    · have hks : k < S.size := by omega
      have i1 : (k : Int) < (S.size : Int) := by omega
      have i2 : (k : Int) < 16 := by omega
      obtain ⟨hx1, hx2⟩ := HB.out k hks
      have hd := Sl.digs_le m.data.toList k
      have RS := Lib.hid (rest_snoc m.data.toList k hlt)
      have RL := rest_take_le m.data.toList (k + 1) (by omega)
      rw [RS.out, ← hq.out] at RL
      have IB : Hid (∀ n u, CallsIn Fence.wide n Tryd.prog 58 #[.string ⟨#[48, 49, 50, 51, 52, 53, 54, 55, 56, 57, 97, 98, 99, 100, 101, 102]⟩, (.int .u8 ((S[k]'hks).toNat : Int) : Value)] u fun e w' => e = .returned (.int .i64 ((Sl.digs m.data.toList).getD k 0 : Nat)) ∧ u = w') := Lib.hid (fun n u => callsIn_wide.2 ((Tryd.strings_IndexByte _ _ u).mono (by
        rintro e w' ⟨rfl, rfl⟩
        rw [byte_back, digit_val _ hx1, ← hx2]
        exact ⟨rfl, rfl⟩)))
      obtain ⟨fn, tmps, assign, body, hy, hR⟩ := HY.out pre ⟨k, by omega⟩ wr hJs.out (by rw [up_len hp.out]; omega)
      unfold encD at hy
      dsimp only at hy
      clear hx1 hx2
      generalize (Sl.digs m.data.toList).getD k 0 = d at *
      have w1 : IntKind.i64.wrap (15 - (d : Int)) = ((15 - d : Nat) : Int) := (IntWalk.i64_in _ (by omega)).trans (by omega)
      have w2 : IntKind.i64.wrap ((q : Int) + ((15 - d : Nat) : Int)) = ((q + (15 - d) : Nat) : Int) := IntWalk.i64_in _ (by omega)
      have HS := Lib.hid (up_snoc hp.out (show k < 18 by omega))
      gi_wp2_with (refine ⟨trivial, ?_⟩; gi_at_call 58; refine (IB.out _ _).mono ?_; rintro e w' ⟨rfl, rfl⟩)
      refine hR.mono ?_
      clear IB hR hy
      rintro e W3 (⟨rfl, hJ3, -⟩ | ⟨rfl, hJx3⟩)
      · have HJ3 := Lib.hid hJ3; clear hJ3
        gi_wp2_with fail
        go_roundw
        case rel => exact ⟨k + 1, q + (15 - d), pre ++ [⟨k, by omega⟩], by omega, by go_num, by go_num, Lib.hid (by rw [RS.out, hq.out]), RL, HS, HJ3⟩
        case measure => simp [intOf]; omega
      · gi_wp2_with fail
        refine bodyPost_ret (results_none rfl _ _ _) rfl ?_
        exact ⟨⟨_, rfl⟩, .inr ⟨_, trivial, hJx3⟩⟩
    · obtain rfl : k = 16 := by omega
      have i1 : ¬ ((16 : Nat) : Int) < (S.size : Int) := by omega
      obtain ⟨e16, e17⟩ := digs_16 m.data.toList
      rw [← hq.out] at e16 e17
      obtain ⟨fn, tmps, assign, body, hy, hR⟩ := HY.out pre ⟨16, by decide⟩ wr hJs.out (by rw [up_len hp.out]; decide)
      unfold encD at hy
      dsimp only at hy
      rw [e16, show ((q / 16 : Nat) : Int) = (q : Int) / 16 by omega, show ((16 : Nat) : Int) = 16 from rfl] at hy
      have q0 : (0 : Int) ≤ (q : Int) := by omega
      have HS := Lib.hid (up_snoc hp.out (show 16 < 18 by decide))
      clear e16
      have E17 := Lib.hid e17; clear e17
      gi_wp2_with fail
      refine hR.mono ?_
      clear hR hy
      rintro e W3 (⟨rfl, hJ3, -⟩ | ⟨rfl, hJx3⟩)
      · obtain ⟨fn, tmps, assign, body, hy, hR⟩ := HY.out (pre ++ [⟨16, by decide⟩]) ⟨17, by decide⟩ W3 hJ3 (by rw [up_len HS.out]; decide)
        unfold encD at hy
        dsimp only at hy
        rw [E17.out, show ((q % 16 : Nat) : Int) = (q : Int) % 16 by omega, show ((17 : Nat) : Int) = 17 from rfl] at hy
        have HS2 := Lib.hid (up_snoc HS.out (show 17 < 18 by decide))
        clear hJ3 HS
        gi_wp2_with fail
        refine hR.mono ?_
        clear hR hy
        rintro e W4 (⟨rfl, hJ4, -⟩ | ⟨rfl, hJx4⟩)
        · have HJ4 := Lib.hid hJ4; clear hJ4
          gi_wp2_with fail
          go_end0
          exact ⟨⟨_, rfl⟩, .inl ⟨_, HS2.out, HJ4.out⟩⟩
        · have HJ4 := Lib.hid hJx4; clear hJx4
          gi_wp2_with fail
          go_end0
          exact ⟨⟨_, rfl⟩, .inr ⟨_, trivial, HJ4.out⟩⟩
      · have HJ4 := Lib.hid hJx3; clear hJx3
        gi_wp2_with fail
        go_end0
        exact ⟨⟨_, rfl⟩, .inr ⟨_, trivial, HJ4.out⟩⟩
theorem digits_stops (m : ByteArray) (Bm : Nat) (w : World) (hms : m.size ≤ 1000) (hlt : Bm < w.heap.size) (hBm : w.cell? ⟨Bm, 0, none⟩ = some (.string m)) :
    SeqStopsK Fence.wide 3 Tryd.prog 56 #[.pointer (some ⟨Bm, 0, none⟩)] (encD m.data.toList) (fun _ _ => True) (fun ys => ys.map (·.1) = List.range 18) (fun _ => True) 18 w := fun l J Jx W hW hJ _ hY h0 =>
  digits1 m Bm l hms J Jx hY W (fun W' h => hJ [] W W' none h0 (grown_of_below h) (fun r e => by cases e)) ((hW.cell (p := ⟨Bm, 0, none⟩) hlt).trans hBm)
end Go.Proofs.YthceonkdmcidcaaDoor
