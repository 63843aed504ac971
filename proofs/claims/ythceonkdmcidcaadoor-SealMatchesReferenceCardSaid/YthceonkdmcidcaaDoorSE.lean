/- WALKS: seal.Public. -/
import Derived.Test.YthceonkdmcidcaaDoorSD
set_option linter.unusedSimpArgs false
set_option linter.unusedVariables false
namespace Go.Proofs.YthceonkdmcidcaaDoor
open Go.RowKit

def slLen : Value → Nat
  | .slice _ n _ => n
  | _ => 0
theorem up_size {L : List (List UInt8)} : ∀ t ∈ Sl.up L, t.length ≤ 300 := by
  intro t ht
  rw [Sl.up_texts] at ht
  obtain ⟨x, _, rfl⟩ := List.mem_map.1 ht
  rw [isD_len (Dg.sumL_isD x)]; decide
theorem keys_size {s : List UInt8} {h : Nat} : ∀ t ∈ Sl.keysF s h, t.length ≤ 300 := by
  intro t ht
  obtain ⟨k, _, rfl⟩ := List.mem_map.1 ht
  rw [show (Sl.key s k).length = 16 from isD_len (key_isD s k)]; decide
theorem up_half {L : List (List UInt8)} {k : Nat} (h : L.length = 2 ^ (k + 1)) : (Sl.up L).length = 2 ^ k := by
  rw [Sl.up_len, h, Nat.pow_succ]; omega
theorem pow_two (k : Nat) : 2 ^ (k + 1) = 2 * 2 ^ k := by rw [Nat.pow_succ, Nat.mul_comm]
theorem pow_pos2 (k : Nat) : 0 < 2 ^ k := Nat.pow_pos (by decide)
theorem pow_le256 {k h : Nat} (hk : k ≤ h) (hh : h ≤ 8) : 2 ^ k ≤ 256 := pow_le8 (by omega)
def PubR (s : List UInt8) (h : Nat) (w : World) (v : Value) (wr : World) : Prop :=
  ∃ (k : Nat) (L : List (List UInt8)) (A : Option Addr) (c : Nat), v = .slice A L.length c ∧ k ≤ h ∧ L.length = 2 ^ k ∧ L.length ≤ c ∧ c ≤ maxLen ∧ (∀ t ∈ L, t.length ≤ 300) ∧ Sl.root k L = Sl.publicF s h ∧ Rd wr A (sv L) ∧ Below w.heap.size w wr
set_option maxHeartbeats 2000000 in
set_option maxRecDepth 100000 in
theorem public_any (s : ByteArray) (h : Nat) (w : World) (hs : s.size ≤ 300) (hh : h ≤ 8) (ht : Tab w) :
    Calls Tryd.prog 13 #[.string s, .int .i64 h] w fun e w' => e = .returned (.tuple #[.string (mkB (Sl.publicF s.data.toList h)), .int .i64 0]) ∧ Below w.heap.size w w' := by
  have HT := Lib.hid ht; clear ht
  have i0 : ¬ (h : Int) < 0 := by omega
  have i1 : ¬ (8 : Int) < (h : Int) := by omega
  have KA := Lib.hid (keys_any s h w hs hh HT.out)
  have KL := Lib.hid (Sl.keysF_len s.data.toList h)
  have KR : Hid (Sl.root h (Sl.keysF s.data.toList h) = Sl.publicF s.data.toList h) := Lib.hid rfl
  have KS := Lib.hid (keys_size (s := s.data.toList) (h := h))
  generalize Sl.keysF s.data.toList h = K at *
  go_enter Tryd.func13, Tryd.ntmps13
  go_wp2_with fail
  refine KA.out.mono ?_
  rintro e w1 ⟨A, c, rfl, hc1, hc2, hrd, hb1, -⟩
  have ST : Hid (PubR s.data.toList h w (.slice A K.length c) w1) := Lib.hid ⟨h, K, A, c, rfl, Nat.le_refl _, KL.out, hc1, hc2, KS.out, KR.out, hrd, hb1⟩
  clear hc1 hc2 hrd hb1 KA KL KR KS
  go_wp2_with fail
  go_loopw [6] (fun l wr => Hid (PubR s.data.toList h w l wr)) (fun l _ => slLen l)
  case atStart => exact ST
  case round =>
    clear ST
    obtain ⟨k, L, A, c, rfl, hk, hl, hc1, hc2, hsz, hroot, hrd, hbl⟩ := hrel.out
    clear hrel
    have RD := Lib.hid hrd; have BL := Lib.hid hbl; have SZ := Lib.hid hsz; have RT := Lib.hid hroot; have HL := Lib.hid hl
    clear hrd hbl hsz hroot hl
    cases k with
    | zero =>
      have l1 : L.length = 1 := HL.out
      obtain ⟨b, off, rfl, hb, hcell⟩ := RD.out (by rw [sv_len, l1]; decide)
      have ea := hcell 0 _ (getD_at (by rw [l1]; decide))
      have RT2 : Hid (L.getD 0 [] = Sl.publicF s.data.toList h) := Lib.hid RT.out
      rw [Nat.add_zero] at ea
      clear hcell
      generalize L.getD 0 [] = y at *
      obtain ⟨n, hn⟩ : ∃ n, L.length = n := ⟨_, rfl⟩
      rw [hn] at l1 hc1 ⊢
      subst l1
      clear hn HL
      go_wp2_with fail
      go_ret2
      exact ⟨by rw [← RT2.out]; rfl, BL.out⟩
    | succ k =>
      have P := Lib.hid (pow_two k)
      have P0 := pow_pos2 k
      have P8 := pow_le256 (k := k) (h := h) (by omega) (by omega)
      have UH := Lib.hid (up_half HL.out)
      have hl2 : L.length = 2 * 2 ^ k := by rw [← P.out]; exact HL.out
      have AA := Lib.hid (above_any A L.length c (2 ^ k) L wr rfl hl2 P0 (by omega) hc1 hc2 SZ.out (HT.out.keep BL.out) RD.out)
      have d1 : (1 : Int) < (L.length : Int) := by omega
      have d2 : 1 < L.length := by omega
      have US := Lib.hid (up_size (L := L))
      have RU : Hid (Sl.root k (Sl.up L) = Sl.publicF s.data.toList h) := Lib.hid RT.out
      have UM : (Sl.up L).length < L.length := by rw [Sl.up_len]; omega
      have UM2 := Lib.hid UM
      generalize Sl.up L = U at *
      generalize L.length = n at *
      clear hl2 UM P0 P8
      go_wp2_with fail
      refine AA.out.mono ?_
      rintro e w2 ⟨A', c', rfl, hc3, hc4, hrd, hb2, -⟩
      have NX : Hid (PubR s.data.toList h w (.slice A' U.length c') w2) := Lib.hid ⟨k, U, A', c', rfl, by omega, UH.out, hc3, hc4, US.out, RU.out, hrd, BL.out.trans (hb2.mono BL.out.size)⟩
      clear hc3 hc4 hrd hb2
      go_wp2_with fail
      exact ⟨NX, by simpa [slLen] using UM2.out⟩
theorem public_bad (s : ByteArray) (x : Int) (w : World) (hx : x < 0 ∨ 8 < x) :
    Calls Tryd.prog 13 #[.string s, .int .i64 x] w fun e w' => e = .returned (.tuple #[.string ⟨#[]⟩, .int .i64 1]) ∧ w = w' := by
  by_cases h0 : x < 0
  · go_enter Tryd.func13, Tryd.ntmps13
    go_wp2_with fail
    go_ret2
    exact ⟨rfl, rfl⟩
  · have h8 : 8 < x := by omega
    clear hx
    go_enter Tryd.func13, Tryd.ntmps13
    go_wp2_with fail
    go_ret2
    exact ⟨rfl, rfl⟩
end Go.Proofs.YthceonkdmcidcaaDoor
