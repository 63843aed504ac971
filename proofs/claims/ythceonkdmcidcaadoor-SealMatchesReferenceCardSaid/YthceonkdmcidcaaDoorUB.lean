/- WALKS: the reference's digits, keys and levels. -/
import Derived.Test.YthceonkdmcidcaaDoorUA
set_option linter.unusedSimpArgs false
set_option linter.unusedVariables false
namespace Go.Proofs.YthceonkdmcidcaaDoor
open Go.RowKit

set_option maxHeartbeats 1000000 in
theorem rdigit_any (b : UInt8) (w : World) (h : Dg.isHex b = true) : Calls Tryd.prog 60 #[.int .u8 (b.toNat : Int)] w fun e w' => e = .returned (.int .i64 ((Sl.hexval b : Nat) : Int)) ∧ w = w' := by
  have hb := b.toNat_lt
  have HX : (48 ≤ b.toNat ∧ b.toNat ≤ 57) ∨ (97 ≤ b.toNat ∧ b.toNat ≤ 102) := by
    unfold Dg.isHex at h
    simpa only [Bool.or_eq_true, Bool.and_eq_true, decide_eq_true_eq] using h
  have HV : Hid (Sl.hexval b = if b.toNat ≤ 57 then b.toNat - 48 else b.toNat - 87) := Lib.hid rfl
  clear h
  generalize b.toNat = n at *
  rcases HX with ⟨h1, h2⟩ | ⟨h1, h2⟩
  · have i1 : (48 : Int) ≤ (n : Int) := by omega
    have i2 : (n : Int) ≤ 57 := by omega
    have w1 : IntKind.u8.wrap ((n : Int) - 48) = (n : Int) - 48 := by rw [IntKind.wrap]; simp [IntKind.signed, IntKind.bits]; omega
    have w2 : IntKind.i64.wrap ((n : Int) - 48) = (n : Int) - 48 := IntWalk.i64_in _ (by omega)
    have e1 : Hid ((n : Int) - 48 = ((Sl.hexval b : Nat) : Int)) := Lib.hid (by rw [HV.out, if_pos h2]; omega)
    go_enter Tryd.func60, Tryd.ntmps60
    go_wp2_with fail
    go_ret
    exact ⟨ret_int e1.out, rfl⟩
  · have i1 : (48 : Int) ≤ (n : Int) := by omega
    have i2 : ¬ (n : Int) ≤ 57 := by omega
    have i3 : (97 : Int) ≤ (n : Int) := by omega
    have i4 : (n : Int) ≤ 102 := by omega
    have w1 : IntKind.u8.wrap ((n : Int) - 97) = (n : Int) - 97 := by rw [IntKind.wrap]; simp [IntKind.signed, IntKind.bits]; omega
    have w2 : IntKind.i64.wrap ((n : Int) - 97) = (n : Int) - 97 := IntWalk.i64_in _ (by omega)
    have w3 : IntKind.i64.wrap ((n : Int) - 97 + 10) = (n : Int) - 97 + 10 := IntWalk.i64_in _ (by omega)
    have e1 : Hid ((n : Int) - 97 + 10 = ((Sl.hexval b : Nat) : Int)) := Lib.hid (by rw [HV.out, if_neg (by omega)]; omega)
    go_enter Tryd.func60, Tryd.ntmps60
    go_wp2_with fail
    go_ret
    exact ⟨ret_int e1.out, rfl⟩
theorem info_intU : (Tryd.prog.info? 3).map (fun i => (i.zero, i.size, i.bytes)) = some (some (.int .i64 0), 1, 8) := by kernel_rfl
def dv (l : List Nat) : List Value := l.map fun d : Nat => Value.int .i64 (d : Int)
theorem digs_full (m : List UInt8) : Sl.digs m = Sl.dgs m ++ [Sl.restF (Sl.dgs m) / 16, Sl.restF (Sl.dgs m) % 16] := rfl
theorem dgs_take (m : List UInt8) : (Sl.dgs m).take 16 = Sl.dgs m := List.take_of_length_le (by rw [Sl.dgs_len]; exact Nat.le_refl _)
theorem dgs_step (m : List UInt8) (k : Nat) (hk : k < 16) : dv ((Sl.dgs m).take (k + 1)) = dv ((Sl.dgs m).take k) ++ [.int .i64 (((Sl.digs m).getD k 0 : Nat) : Int)] := by
  have hl := Sl.dgs_len m
  have := full_get (Sl.dgs m) k (by omega)
  rw [show Sl.digs m = Sl.full (Sl.dgs m) from rfl, this, List.take_succ_eq_append_getElem (by omega)]
  simp only [dv, List.map_append, List.map_cons, List.map_nil]
def DigP (w : World) (m : List UInt8) (e : Ending) (w' : World) : Prop := ∃ A c, e = .returned (.slice A 18 c) ∧ Rd w' A (dv (Sl.digs m)) ∧ Below w.heap.size w w'
set_option maxHeartbeats 2000000 in
set_option maxRecDepth 100000 in
theorem rdigs_any (m : ByteArray) (w : World) (hm : m.size ≤ 1000000) : Calls Tryd.prog 34 #[.string m] w (DigP w m.data.toList) := by
  obtain ⟨S, hS, hS16, hSk⟩ := sum_bytes m.data.toList
  have RS := Lib.hid (rsumT_any m w hm)
  rw [hS] at RS
  have SK := Lib.hid hSk
  clear hS hSk
  obtain ⟨B, hB⟩ : ∃ B, w.heap.size = B := ⟨_, rfl⟩
  have HW : Hid (w.heap.size = B) := Lib.hid hB
  have L0 : Hid (Below B w w) := Lib.hid (Below.refl _ _)
  have S16 := Lib.hid hS16
  clear hB
  go_enter Tryd.func34, Tryd.ntmps34
  go_wp2_with fail
  refine RS.out.mono ?_
  rintro e w1 ⟨rfl, rfl⟩
  clear RS
  go_wp2_with fail
  go_loopw [4, 5, 6] (fun v r i wr => ∃ k q : Nat, k ≤ 16 ∧ i = .int .i64 k ∧ r = .int .i64 q ∧ q ≤ 15 * k ∧ Hid (q = Sl.restF ((Sl.dgs m.data.toList).take k)) ∧ Hid (wr.ownsRow B 3 1 v k (dv ((Sl.dgs m.data.toList).take k))) ∧ Hid (Below B w wr)) (fun _ _ i _ => 16 - (intOf i).toNat)
  case atStart => exact ⟨0, 0, by omega, rfl, rfl, by omega, Lib.hid rfl, Lib.hid (World.ownsRow_nil _ _ _ _), L0⟩
  case round =>
    clear L0
    obtain ⟨k, q, hk, rfl, rfl, hq, hqe, hown, hbl⟩ := hrel
    obtain ⟨A5, c5, rfl, -, -⟩ := own_form hown.out
    have hsz : B ≤ wr.heap.size := by have := hbl.out.size; rw [HW.out] at this; exact this
    by_cases hlt : k < 16
    · have hks : k < S.size := by rw [S16.out]; exact hlt
      have d1 : (k : Int) < (S.size : Int) := by omega
      obtain ⟨hx, hd⟩ := SK.out k hks
      have DA := Lib.hid (rdigit_any S[k] wr hx)
      have RN := Lib.hid (rest_snoc m.data.toList k hlt)
      have DS := Lib.hid (dgs_step m.data.toList k hlt)
      have DL := Sl.digs_le m.data.toList k
      rw [hd] at DL
      rw [hd] at RN DS
      clear hx hd
      generalize Sl.hexval S[k] = d at *
      have w1 : IntKind.i64.wrap ((q : Int) + 15) = (q : Int) + 15 := IntWalk.i64_in _ (by omega)
      have w2 : IntKind.i64.wrap ((q : Int) + 15 - (d : Int)) = (q : Int) + 15 - (d : Int) := IntWalk.i64_in _ (by omega)
      have RV : Hid (Value.int .i64 ((q : Int) + 15 - (d : Int)) = .int .i64 ((q + (15 - d) : Nat) : Int)) := Lib.hid (by rw [show (q : Int) + 15 - (d : Int) = ((q + (15 - d) : Nat) : Int) by omega])
      have RQ : Hid (q + (15 - d) = Sl.restF ((Sl.dgs m.data.toList).take (k + 1))) := Lib.hid (by rw [RN.out, ← hqe.out])
      go_wp2_with fail
      refine DA.out.mono ?_
      rintro e w2 ⟨rfl, rfl⟩
      go_wp2_with (at_builtin; refine wpList_app1 rfl (.tmp 20) (.tmp 22) 56 rfl Tryd.underlying56 info_intU rfl (by decide) B (.slice A5 _ c5) _ _ wr #[.int .i64 (d : Int)] rfl ?c1 rfl rfl rfl hown.out hsz ?c2 ?c3 ?_)
      case c1 => simp [Value.oneCell']
      case c2 => omega
      case c3 => omega
      intro v2 w3 hown2 hb3
      have HO2 : Hid (w3.ownsRow B 3 1 v2 (k + 1) (dv ((Sl.dgs m.data.toList).take (k + 1)))) := Lib.hid (by rw [DS.out]; exact hown2)
      have HB3 : Hid (Below B w w3) := Lib.hid (hbl.out.trans hb3)
      clear hown2 hb3
      go_wp2_with fail
      exact ⟨⟨k + 1, q + (15 - d), hlt, by go_num, RV.out, by omega, RQ, HO2, HB3⟩, by simp [intOf]; omega⟩
    · have hk16 : k = 16 := by omega
      have HK := Lib.hid hk16
      have d1 : ¬ (k : Int) < (S.size : Int) := by rw [S16.out]; omega
      have hq2 : q ≤ 240 := by omega
      have DF : Hid (dv (Sl.digs m.data.toList) = dv ((Sl.dgs m.data.toList).take k) ++ [.int .i64 ((q : Int) / 16), .int .i64 ((q : Int) % 16)]) := Lib.hid (by
        have e := hqe.out
        rw [hk16, dgs_take] at e
        rw [digs_full, hk16, dgs_take, ← e]
        simp [dv])
      clear hq hk16 hqe
      go_wp2_with (at_builtin; refine wpList_appM rfl (.tmp 28) (.tmp 33) 56 rfl Tryd.underlying56 info_intU rfl (by decide) B (.slice A5 _ c5) _ 2 _ wr #[.int .i64 ((q : Int) / 16), .int .i64 ((q : Int) % 16)] rfl ?c1 rfl rfl rfl hown.out hsz ?c2 ?c3 ?_)
      case c1 => simp [Value.oneCell']
      case c2 => omega
      case c3 => omega
      intro v2 w3 hown2 hb3
      have HO2 : Hid (w3.ownsRow B 3 1 v2 18 (dv (Sl.digs m.data.toList))) := Lib.hid (by rw [DF.out]; exact own_cast hown2 (by rw [HK.out]) rfl)
      have HB3 : Hid (Below B w w3) := Lib.hid (hbl.out.trans hb3)
      clear hown2 hb3
      obtain ⟨A6, c6, rfl, -, -⟩ := own_form HO2.out
      go_wp2_with fail
      go_ret
      exact ⟨A6, c6, rfl, Rd.of_own HO2.out, by rw [HW.out]; exact HB3.out⟩
set_option maxHeartbeats 2000000 in
set_option maxRecDepth 100000 in
theorem rkey_any (s : ByteArray) (i : Nat) (w : World) (hs : s.size ≤ 300) (hi : i < 10000) :
    Calls Tryd.prog 55 #[.string s, .int .i64 i] w fun e w' => e = .returned (.string (mkB (Sl.key s.data.toList i))) ∧ Below w.heap.size w w' := by
  have EL := Sl.endsF_len s.data.toList i
  obtain ⟨B, hB⟩ : ∃ B, w.heap.size = B := ⟨_, rfl⟩
  have HW : Hid (B = w.heap.size) := Lib.hid hB.symm
  have HB : Hid (Below B w w) := Lib.hid (Below.refl _ _)
  clear hB
  go_enter Tryd.func55, Tryd.ntmps55
  go_wp2_with fail
  go_loopw [5, 6] (fun v i' wr => ∃ k : Nat, k ≤ 18 ∧ i' = .int .i64 k ∧ Hid (wr.ownsRow B 9 1 v k (sv ((Sl.endsF s.data.toList i).take k))) ∧ Hid (Below B w wr)) (fun _ i' _ => 18 - (intOf i').toNat)
  case atStart => exact ⟨0, by omega, rfl, Lib.hid (World.ownsRow_nil _ _ _ _), HB⟩
  case round =>
    clear HB
    obtain ⟨k, hk, rfl, hown, hbl⟩ := hrel
    have hsz : B ≤ wr.heap.size := by have := hbl.out.size; rw [HW.out]; exact this
    by_cases hlt : k < 18
    · have d1 : decide ((k : Int) < 18) = true := by simp; omega
      have ES := Lib.hid (ends_step (s := s.data.toList) (i := i) hlt)
      obtain ⟨A5, c5, rfl, -, -⟩ := own_form hown.out
      go_wp2_with fail
      refine (rstart_any s i k wr hs hi (by omega)).mono ?_
      rintro e w1 ⟨rfl, hb1⟩
      have B1 := Lib.hid hb1; clear hb1
      have zz : (mkB (Sl.start s.data.toList i k)).size ≤ 1000000 := by rw [mkB_size, show (Sl.start s.data.toList i k).length = 16 from isD_len (Dg.sumL_isD _)]; decide
      have CA := Lib.hid (fun u => rchain_any (mkB (Sl.start s.data.toList i k)) 15 15 u rfl (by decide) zz)
      rw [mkB_list] at CA
      clear zz
      generalize Sl.chainF 15 (Sl.start s.data.toList i k) = y at *
      generalize Sl.start s.data.toList i k = x at *
      go_wp2_with fail
      refine (CA.out _).mono ?_
      rintro e w2 ⟨rfl, rfl⟩
      have hs2 : B ≤ w1.heap.size := by have := B1.out.size; omega
      have HO := Lib.hid (own_below hown.out B1.out (Nat.le_refl _))
      clear hown
      go_wp2_with (at_builtin; refine wpList_app1 rfl (.tmp 11) (.tmp 17) 22 rfl Tryd.underlying22 info_str rfl (by decide) B (.slice A5 _ c5) _ _ w1 #[.string (mkB y)] rfl ?c1 rfl rfl rfl HO.out hs2 ?c2 ?c3 ?_)
      case c1 => simp [Value.oneCell']
      case c2 => omega
      case c3 => omega
      intro v2 w3 hown2 hb3
      have HO2 : Hid (w3.ownsRow B 9 1 v2 (k + 1) (sv ((Sl.endsF s.data.toList i).take (k + 1)))) := Lib.hid (by rw [ES.out]; exact hown2)
      have HB3 : Hid (Below B w w3) := Lib.hid ((hbl.out.trans (B1.out.mono hsz)).trans hb3)
      clear hown2 hb3 HO
      go_wp2_with fail
      exact ⟨⟨k + 1, hlt, by go_num, HO2, HB3⟩, by simp [intOf]; omega⟩
    · have hk18 : k = 18 := by omega
      subst hk18
      have d1 : decide (((18 : Nat) : Int) < 18) = false := by decide
      obtain ⟨A5, c5, rfl, -, -⟩ := own_form hown.out
      have RD := Lib.hid (Rd.of_own hown.out)
      rw [List.take_of_length_le (by omega)] at RD
      have OA := Lib.hid (rlistT_any A5 18 c5 (Sl.endsF s.data.toList i) wr EL.symm (by omega) ends_size RD.out)
      have HBL : Hid (Below w.heap.size w wr) := Lib.hid (HW.out ▸ hbl.out)
      clear hown RD
      go_wp2_with fail
      refine OA.out.mono ?_
      rintro e w1 ⟨rfl, hb1⟩
      have B1 := Lib.hid (HBL.out.trans (hb1.mono HBL.out.size)); clear hb1
      go_wp2_with fail
      go_ret
      exact ⟨rfl, B1.out⟩
theorem keys_step {s : List UInt8} {h k : Nat} (hk : k < 2 ^ h) : sv ((Sl.keysF s h).take (k + 1)) = sv ((Sl.keysF s h).take k) ++ [.string (mkB (Sl.key s k))] := by
  rw [← sv_one, ← sv_app]
  congr 1
  rw [List.take_succ_eq_append_getElem (by rw [Sl.keysF_len]; exact hk)]
  congr 1
  simp [Sl.keysF]
set_option maxHeartbeats 2000000 in
set_option maxRecDepth 100000 in
theorem rkeys_any (s : ByteArray) (h : Nat) (x : Int) (w : World) (hx : x = (h : Int)) (hs : s.size ≤ 300) (hh : h ≤ 8) :
    Calls Tryd.prog 29 #[.string s, .int .i64 x] w (OwnP w (Sl.keysF s.data.toList h)) := by
  subst hx
  have PA := Lib.hid (fun u => rpower_any (h : Int) h u rfl (by omega))
  have P8 := pow_le8 hh
  have KL := Lib.hid (Sl.keysF_len s.data.toList h)
  have KS : Hid (∀ k, k < 2 ^ h → sv ((Sl.keysF s.data.toList h).take (k + 1)) = sv ((Sl.keysF s.data.toList h).take k) ++ [.string (mkB (Sl.key s.data.toList k))]) := Lib.hid (fun k hk => keys_step hk)
  generalize 2 ^ h = n at *
  generalize Sl.keysF s.data.toList h = K at *
  obtain ⟨B, hB⟩ : ∃ B, w.heap.size = B := ⟨_, rfl⟩
  have HW : Hid (B = w.heap.size) := Lib.hid hB.symm
  have HB : Hid (Below B w w) := Lib.hid (Below.refl _ _)
  clear hB hh
  go_enter Tryd.func29, Tryd.ntmps29
  go_wp2_with fail
  go_loopw [5, 6] (fun v i' wr => ∃ k : Nat, k ≤ n ∧ i' = .int .i64 k ∧ Hid (wr.ownsRow B 9 1 v k (sv (K.take k))) ∧ Hid (Below B w wr)) (fun _ i' _ => n - (intOf i').toNat)
  case atStart => exact ⟨0, by omega, rfl, Lib.hid (World.ownsRow_nil _ _ _ _), HB⟩
  case round =>
    clear HB
    obtain ⟨k, hk, rfl, hown, hbl⟩ := hrel
    have hsz : B ≤ wr.heap.size := by have := hbl.out.size; rw [HW.out]; exact this
    obtain ⟨A5, c5, rfl, -, -⟩ := own_form hown.out
    by_cases hlt : k < n
    · have d1 : (k : Int) < (n : Int) := by omega
      have ES := Lib.hid (KS.out k hlt)
      have KA := Lib.hid (rkey_any s k wr hs (by omega))
      generalize Sl.key s.data.toList k = y at *
      go_wp2_with fail
      refine (PA.out _).mono ?_
      rintro e w1 ⟨rfl, rfl⟩
      go_wp2_with fail
      refine KA.out.mono ?_
      rintro e w1 ⟨rfl, hb1⟩
      have hs2 : B ≤ w1.heap.size := by have := hb1.size; omega
      have HO := Lib.hid (own_below hown.out hb1 (Nat.le_refl _))
      have B1 := Lib.hid (hbl.out.trans (hb1.mono hsz))
      clear hown hb1
      go_wp2_with (at_builtin; refine wpList_app1 rfl (.tmp 13) (.tmp 17) 22 rfl Tryd.underlying22 info_str rfl (by decide) B (.slice A5 _ c5) _ _ w1 #[.string (mkB y)] rfl ?c1 rfl rfl rfl HO.out hs2 ?c2 ?c3 ?_)
      case c1 => simp [Value.oneCell']
      case c2 => omega
      case c3 => omega
      intro v2 w3 hown2 hb3
      have HO2 : Hid (w3.ownsRow B 9 1 v2 (k + 1) (sv (K.take (k + 1)))) := Lib.hid (by rw [ES.out]; exact hown2)
      have HB3 : Hid (Below B w w3) := Lib.hid (B1.out.trans hb3)
      clear hown2 hb3 HO
      go_wp2_with fail
      exact ⟨⟨k + 1, hlt, by go_num, HO2, HB3⟩, by simp [intOf]; omega⟩
    · have hkn : k = n := by omega
      subst hkn
      have d1 : ¬ (k : Int) < (k : Int) := by omega
      go_wp2_with fail
      refine (PA.out _).mono ?_
      rintro e w1 ⟨rfl, rfl⟩
      go_wp2_with fail
      go_ret
      refine ⟨A5, c5, ?_, ?_, ?_⟩
      · (rw [KL.out]) <;> rfl
      · have := hown.out
        rw [List.take_of_length_le (by rw [KL.out]; exact Nat.le_refl _)] at this
        rw [KL.out, ← HW.out]; exact this
      · rw [← HW.out]; exact hbl.out
theorem up_step {L : List (List UInt8)} {j : Nat} (h : 2 * j + 1 < L.length) : sv ((Sl.up L).take (j + 1)) = sv ((Sl.up L).take j) ++ [.string (mkB (Dg.sumL (Sl.nodeT (L.getD (2 * j) []) (L.getD (2 * j + 1) []))))] := by
  have hl := Sl.up_len L
  have hj : j < (Sl.up L).length := by omega
  have := (Sl.texts_get L j h).2
  rw [List.getD_eq_getElem?_getD, List.getElem?_eq_getElem hj] at this
  rw [← sv_one, ← sv_app, List.take_succ_eq_append_getElem hj]
  congr 2
  simpa using this
theorem getD_300 {L : List (List UInt8)} (h : ∀ t ∈ L, t.length ≤ 300) (i : Nat) : (L.getD i []).length ≤ 300 := by
  rw [List.getD_eq_getElem?_getD]
  cases e : L[i]? with
  | none => simp
  | some t => exact h t (List.mem_of_getElem? e)
set_option maxHeartbeats 4000000 in
set_option maxRecDepth 100000 in
theorem rup_any (A : Option Addr) (n c : Nat) (L : List (List UInt8)) (w : World) (hn : n = L.length) (hl : L.length ≤ 1000) (hs : ∀ t ∈ L, t.length ≤ 300) (h : Rd w A (sv L)) :
    Calls Tryd.prog 54 #[.slice A n c] w (OwnP w (Sl.up L)) := by
  subst hn
  have H := Lib.hid h; clear h
  have HS := Lib.hid (getD_300 hs); clear hs
  have UL := Lib.hid (Sl.up_len L)
  obtain ⟨B, hB⟩ : ∃ B, w.heap.size = B := ⟨_, rfl⟩
  have HW : Hid (B = w.heap.size) := Lib.hid hB.symm
  have HB : Hid (Below B w w) := Lib.hid (Below.refl _ _)
  clear hB
  go_enter Tryd.func54, Tryd.ntmps54
  go_wp2_with fail
  go_loopw [3, 4] (fun v i' wr => ∃ j : Nat, 2 * j ≤ L.length ∧ i' = .int .i64 (2 * j : Nat) ∧ Hid (wr.ownsRow B 9 1 v j (sv ((Sl.up L).take j))) ∧ Hid (Below B w wr)) (fun _ i' _ => L.length - (intOf i').toNat)
  case atStart => exact ⟨0, by omega, rfl, Lib.hid (World.ownsRow_nil _ _ _ _), HB⟩
  case round =>
    clear HB
    obtain ⟨j, hj, rfl, hown, hbl⟩ := hrel
    have hsz : B ≤ wr.heap.size := by have := hbl.out.size; rw [HW.out]; exact this
    obtain ⟨A5, c5, rfl, -, -⟩ := own_form hown.out
    by_cases hlt : 2 * j + 1 < L.length
    · have US := Lib.hid (up_step hlt)
      obtain ⟨b, off, rfl, hb, hcell⟩ := H.out (by rw [sv_len]; omega)
      rw [← HW.out] at hb
      have ea := hcell (2 * j) _ (getD_at (by omega))
      have eb := hcell (2 * j + 1) _ (getD_at hlt)
      have la := HS.out (2 * j)
      have lb := HS.out (2 * j + 1)
      clear hcell
      generalize L.getD (2 * j) [] = ta at *
      generalize L.getD (2 * j + 1) [] = tb at *
      obtain ⟨q, hq⟩ : ∃ q, 2 * j = q := ⟨_, rfl⟩
      rw [hq] at ea eb hlt hj ⊢
      have C0 : ∀ w', Below B w w' → w'.cell? ⟨b, off + q, none⟩ = some (.string (mkB ta)) := fun w' h => (h.cell (p := ⟨b, off + q, none⟩) hb).trans ea
      have C1 : ∀ w', Below B w w' → w'.cell? ⟨b, off + (q + 1), none⟩ = some (.string (mkB tb)) := fun w' h => (h.cell (p := ⟨b, off + (q + 1), none⟩) hb).trans eb
      have NC : Hid (Calls Tryd.prog 44 #[.slice (some ⟨wr.heap.size, 0, none⟩) 3 3] (wr.drew.alloc (.cells #[.string ⟨#[110, 111, 100, 101]⟩, .string (mkB ta), .string (mkB tb)] 9)) fun e w' => e = .returned (.string (mkB (Dg.sumL (Sl.nodeT ta tb)))) ∧ Below wr.heap.size wr w') := Lib.hid (by
        refine (rnode_core (mkB ta) (mkB tb) wr.drew (by rw [mkB_size]; exact la) (by rw [mkB_size]; exact lb)).mono ?_
        rintro e w' ⟨rfl, hb'⟩
        exact ⟨by rw [mkB_list, mkB_list], drew_below hb'⟩)
      generalize Dg.sumL (Sl.nodeT ta tb) = y at *
      have HQ := Lib.hid hq
      have hj3 : j ≤ 1000 := by omega
      have w1 : IntKind.i64.wrap ((q : Int) + 1) = (q : Int) + 1 := IntWalk.i64_in _ (by omega)
      have w2 : IntKind.i64.wrap ((q : Int) + 2) = (q : Int) + 2 := IntWalk.i64_in _ (by omega)
      have t1 : ((q : Int) + 1).toNat = q + 1 := by omega
      have i1 : (q : Int) + 1 < (L.length : Int) := by omega
      have i2 : (q : Int) < (L.length : Int) := by omega
      have i3 : (0 : Int) ≤ (q : Int) + 1 := by omega
      clear ea eb la lb hq
      go_wp2_with fail
      (refine wp_region_noPanic ?_; refine wp_region_held_drew (S := (fun w' => Below B w w')) (by kernel_rfl) ?_ (fun hHeld => ?_); exact hbl.out.drew)
      (refine wpAnyH_take (i := 0) (oi := _) (v := ?_) rfl (by kernel_rfl) (by kernel_rfl) (by kernel_rfl) (fun _ _ _ h => h) (Or.inl ⟨?_, ?_⟩) (by assumption) ?_; rotate_left; (focus (first | rfl | (simp [Region.wanted, yielded]; done))); (focus (intro w hSw; (try dsimp only at hSw); go_simp; all_goals (with_reducible rfl))); try simp only [Act.put, List.getElem_toArray, List.getElem_cons_zero, List.getElem_cons_succ, List.setIfInBounds_toArray, List.set_cons_zero, List.set_cons_succ])
      (refine wpAnyH_take (i := 1) (oi := _) (v := ?_) rfl (by kernel_rfl) (by kernel_rfl) (by kernel_rfl) (fun _ _ _ h => h) (Or.inl ⟨?_, ?_⟩) (by assumption) ?_; rotate_left; (focus (first | rfl | (simp [Region.wanted, yielded]; done))); (focus (intro w hSw; (try dsimp only at hSw); go_simp; all_goals (with_reducible rfl))); try simp only [Act.put, List.getElem_toArray, List.getElem_cons_zero, List.getElem_cons_succ, List.setIfInBounds_toArray, List.set_cons_zero, List.set_cons_succ])
      (refine wpAnyH_take (i := 2) (oi := _) (v := ?_) rfl (by kernel_rfl) (by kernel_rfl) (by kernel_rfl) (fun _ _ _ h => h) (Or.inl ⟨?_, ?_⟩) (by assumption) ?_; rotate_left; (focus (first | rfl | (simp [Region.wanted, yielded]; done))); (focus (intro w hSw; (try dsimp only at hSw); go_simp; all_goals (with_reducible rfl))); try simp only [Act.put, List.getElem_toArray, List.getElem_cons_zero, List.getElem_cons_succ, List.setIfInBounds_toArray, List.set_cons_zero, List.set_cons_succ])
      (refine wpAnyH_take (i := 3) (oi := _) (v := ?_) rfl (by kernel_rfl) (by kernel_rfl) (by kernel_rfl) (fun _ _ _ h => h) (Or.inl ⟨?_, ?_⟩) (by assumption) ?_; rotate_left; (focus (first | rfl | (simp [Region.wanted, yielded]; done))); (focus (intro w hSw; (try dsimp only at hSw); go_simp; all_goals (with_reducible rfl))); try simp only [Act.put, List.getElem_toArray, List.getElem_cons_zero, List.getElem_cons_succ, List.setIfInBounds_toArray, List.set_cons_zero, List.set_cons_succ])
      (refine wpAnyH_take (i := 4) (oi := _) (v := ?_) rfl (by kernel_rfl) (by kernel_rfl) (by kernel_rfl) (fun _ _ _ h => h) (Or.inl ⟨?_, ?_⟩) (by assumption) ?_; rotate_left; (focus (first | rfl | (simp [Region.wanted, yielded]; done))); (focus (intro w hSw; (try dsimp only at hSw); go_simp; all_goals (with_reducible rfl))); try simp only [Act.put, List.getElem_toArray, List.getElem_cons_zero, List.getElem_cons_succ, List.setIfInBounds_toArray, List.set_cons_zero, List.set_cons_succ])
      (refine wpAnyH_take (i := 5) (oi := _) (v := ?_) rfl (by kernel_rfl) (by kernel_rfl) (by kernel_rfl) (fun _ _ _ h => h) (Or.inl ⟨?_, ?_⟩) (by assumption) ?_; rotate_left; (focus (first | rfl | (simp [Region.wanted, yielded]; done))); (focus (intro w hSw; (try dsimp only at hSw); go_simp; all_goals (with_reducible rfl))); try simp only [Act.put, List.getElem_toArray, List.getElem_cons_zero, List.getElem_cons_succ, List.setIfInBounds_toArray, List.set_cons_zero, List.set_cons_succ])
      (refine wpAnyH_take (i := 6) (oi := _) (v := ?_) rfl (by kernel_rfl) (by kernel_rfl) (by kernel_rfl) (fun _ _ _ h => h) (Or.inl ⟨?_, ?_⟩) (by assumption) ?_; rotate_left; (focus (first | rfl | (simp [Region.wanted, yielded]; done))); (focus (intro w hSw; (try dsimp only at hSw); go_simp; all_goals (with_reducible rfl))); try simp only [Act.put, List.getElem_toArray, List.getElem_cons_zero, List.getElem_cons_succ, List.setIfInBounds_toArray, List.set_cons_zero, List.set_cons_succ])
      (refine wpAnyH_take (i := 7) (oi := _) (v := ?_) rfl (by kernel_rfl) (by kernel_rfl) (by kernel_rfl) (fun _ _ _ h => h) (Or.inl ⟨?_, ?_⟩) (by assumption) ?_; rotate_left; (focus (first | rfl | (simp [Region.wanted, yielded]; done))); (focus (intro w hSw; (try dsimp only at hSw); go_simp; all_goals (with_reducible rfl))); try simp only [Act.put, List.getElem_toArray, List.getElem_cons_zero, List.getElem_cons_succ, List.setIfInBounds_toArray, List.set_cons_zero, List.set_cons_succ])
      (refine wpAnyH_take (i := 8) (oi := _) (v := ?_) rfl (by kernel_rfl) (by kernel_rfl) (by kernel_rfl) (fun _ _ _ h => h) (Or.inl ⟨?_, ?_⟩) (by assumption) ?_; rotate_left; (focus (first | rfl | (simp [Region.wanted, yielded]; done))); (focus (intro w hSw; (try dsimp only at hSw); go_simp; all_goals (with_reducible rfl))); try simp only [Act.put, List.getElem_toArray, List.getElem_cons_zero, List.getElem_cons_succ, List.setIfInBounds_toArray, List.set_cons_zero, List.set_cons_succ])
      (refine wpAnyH_take (i := 9) (oi := _) (v := ?_) rfl (by kernel_rfl) (by kernel_rfl) (by kernel_rfl) (fun _ _ _ h => h) (Or.inl ⟨?_, ?_⟩) (by assumption) ?_; rotate_left; (focus (first | rfl | (simp [Region.wanted, yielded]; done))); (focus (intro w hSw; (try dsimp only at hSw); go_simp; all_goals (with_reducible rfl))); try simp only [Act.put, List.getElem_toArray, List.getElem_cons_zero, List.getElem_cons_succ, List.setIfInBounds_toArray, List.set_cons_zero, List.set_cons_succ])
      (refine wpAnyH_ready (rs := [10]) (by kernel_rfl) (by simp) ?_; refine AllReadyH.cons (o := _) rfl (fun K hK => ?_) AllReadyH.nil; go_simp)
      (refine hK.out _ _ (Below.alloc hHeld hsz _) (fun hHeld2 => ?_); clear hK K hHeld; have hHeld := hHeld2; clear hHeld2; try simp only [Act.put, List.getElem_toArray, List.getElem_cons_zero, List.getElem_cons_succ, List.setIfInBounds_toArray, List.set_cons_zero, List.set_cons_succ])
      (refine wpAnyH_ready (rs := [11]) (by kernel_rfl) (by simp) ?_; refine AllReadyH.cons (o := _) rfl (fun K hK => ?_) AllReadyH.nil; go_simp)
      refine NC.out.mono ?_
      rintro e w2 ⟨rfl, hb2⟩
      (refine hK.out _ _ (hbl.out.trans (hb2.mono hsz)) (fun hHeld2 => ?_); clear hK K hHeld; have hHeld := hHeld2; clear hHeld2; try simp only [Act.put, List.getElem_toArray, List.getElem_cons_zero, List.getElem_cons_succ, List.setIfInBounds_toArray, List.set_cons_zero, List.set_cons_succ])
      (refine wpAnyH_ready (rs := [12]) (by kernel_rfl) (by simp) ?_; refine AllReadyH.cons (o := _) rfl (fun K hK => ?_) AllReadyH.nil; go_simp)
      (refine hK.out _ _ (Below.alloc hHeld (Nat.le_trans hsz hb2.size) _) (fun hHeld2 => ?_); clear hK K hHeld; have hHeld := hHeld2; clear hHeld2; try simp only [Act.put, List.getElem_toArray, List.getElem_cons_zero, List.getElem_cons_succ, List.setIfInBounds_toArray, List.set_cons_zero, List.set_cons_succ])
      (refine wpAnyH_ready (rs := [13]) (by kernel_rfl) (by simp) ?_; refine AllReadyH.cons (o := _) rfl (fun K hK => ?_) AllReadyH.nil)
      refine step_appB rfl (.tmp 12) (.tmp 24) 22 rfl Tryd.underlying22 info_str rfl (by decide) B (.slice A5 j c5) j 1 _ w2 #[.string (mkB y)] rfl (by simp [Value.oneCell']) rfl rfl rfl (own_below hown.out hb2 (Nat.le_refl _)) (Nat.le_trans hsz hb2.size) (by omega) (by omega) (by decide) ?_
      intro A6 c6 w6 hown6 hb6 hg6
      have D3 := Lib.hid ((hbl.out.trans (hb2.mono hsz)).trans hb6)
      (refine hK.out _ _ D3.out (fun hHeld2 => ?_); clear hK K hHeld; have hHeld := hHeld2; clear hHeld2; try simp only [Act.put, List.getElem_toArray, List.getElem_cons_zero, List.getElem_cons_succ, List.setIfInBounds_toArray, List.set_cons_zero, List.set_cons_succ])
      (refine wpAnyH_take (i := 14) (oi := _) (v := ?_) rfl (by kernel_rfl) (by kernel_rfl) (by kernel_rfl) (fun _ _ _ h => h) (Or.inl ⟨?_, ?_⟩) (by assumption) ?_; rotate_left; (focus (first | rfl | (simp [Region.wanted, yielded]; done))); (focus (intro w hSw; (try dsimp only at hSw); go_simp; all_goals (with_reducible rfl))); try simp only [Act.put, List.getElem_toArray, List.getElem_cons_zero, List.getElem_cons_succ, List.setIfInBounds_toArray, List.set_cons_zero, List.set_cons_succ])
      (refine wpAnyH_done (by kernel_rfl) ?_ _; refine NoPanic.normal ?_)
      clear hHeld
      have HO2 : Hid (w6.ownsRow B 9 1 (.slice A6 (j + 1) c6) (j + 1) (sv ((Sl.up L).take (j + 1)))) := Lib.hid (by rw [US.out]; exact hown6)
      clear hown6 hb6 hg6 hb2 C0 C1
      go_wp2_with fail
      exact ⟨⟨j + 1, by have := HQ.out; omega, by rw [show 2 * (j + 1) = q + 2 by have := HQ.out; omega]; go_num, HO2, D3⟩, by simp [intOf]; omega⟩
    · have UT : Hid ((Sl.up L).take j = Sl.up L ∧ (Sl.up L).length = j) := Lib.hid (by have := UL.out; exact ⟨List.take_of_length_le (by omega), by omega⟩)
      obtain ⟨q, hq⟩ : ∃ q, 2 * j = q := ⟨_, rfl⟩
      rw [hq] at hlt hj ⊢
      have w1 : IntKind.i64.wrap ((q : Int) + 1) = (q : Int) + 1 := IntWalk.i64_in _ (by omega)
      have i1 : ¬ (q : Int) + 1 < (L.length : Int) := by omega
      clear hq
      go_wp2_with fail
      go_ret
      refine ⟨A5, c5, ?_, ?_, ?_⟩
      · (rw [UT.out.2]) <;> rfl
      · have := hown.out
        rw [UT.out.1] at this
        rw [UT.out.2, ← HW.out]; exact this
      · rw [← HW.out]; exact hbl.out
end Go.Proofs.YthceonkdmcidcaaDoor
