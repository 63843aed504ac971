/- WALKS: the reference's roots, paths, public keys. -/
import Derived.Test.YthceonkdmcidcaaDoorUB
set_option linter.unusedSimpArgs false
set_option linter.unusedVariables false
namespace Go.Proofs.YthceonkdmcidcaaDoor
open Go.RowKit

def RootR (h : Nat) (T : List UInt8) (w : World) (v : Value) (wr : World) : Prop :=
  ∃ (k : Nat) (L : List (List UInt8)) (A : Option Addr) (c : Nat), v = .slice A L.length c ∧ k ≤ h ∧ L.length = 2 ^ k ∧ (∀ t ∈ L, t.length ≤ 300) ∧ Sl.root k L = T ∧ Rd wr A (sv L) ∧ Below w.heap.size w wr
set_option maxHeartbeats 2000000 in
set_option maxRecDepth 100000 in
theorem rroot_any (A : Option Addr) (n c h : Nat) (K : List (List UInt8)) (w : World) (hn : n = K.length) (hh : h ≤ 8) (hl : K.length = 2 ^ h) (hs : ∀ t ∈ K, t.length ≤ 300) (hr : Rd w A (sv K)) :
    Calls Tryd.prog 28 #[.slice A n c] w fun e w' => e = .returned (.string (mkB (Sl.root h K))) ∧ Below w.heap.size w w' := by
  subst hn
  obtain ⟨T, hT⟩ : ∃ T, Sl.root h K = T := ⟨_, rfl⟩
  have ST : Hid (RootR h T w (.slice A K.length c) w) := Lib.hid ⟨h, K, A, c, rfl, Nat.le_refl _, hl, hs, hT, hr, Below.refl _ _⟩
  rw [hT]
  clear hT hl hs hr
  go_enter Tryd.func28, Tryd.ntmps28
  go_wp2_with fail
  go_loopw [0] (fun l wr => Hid (RootR h T w l wr)) (fun l _ => slLen l)
  case atStart => exact ST
  case round =>
    clear ST
    obtain ⟨k, L, A, c, rfl, hk, hl, hsz, hroot, hrd, hbl⟩ := hrel.out
    clear hrel
    have RD := Lib.hid hrd; have BL := Lib.hid hbl; have SZ := Lib.hid hsz; have RT := Lib.hid hroot; have HL := Lib.hid hl
    clear hrd hbl hsz hroot hl
    cases k with
    | zero =>
      have l1 : L.length = 1 := HL.out
      obtain ⟨b, off, rfl, hb, hcell⟩ := RD.out (by rw [sv_len, l1]; decide)
      have ea := hcell 0 _ (getD_at (by rw [l1]; decide))
      have RT2 : Hid (L.getD 0 [] = T) := Lib.hid RT.out
      rw [Nat.add_zero] at ea
      clear hcell
      generalize L.getD 0 [] = y at *
      obtain ⟨n, hn⟩ : ∃ n, L.length = n := ⟨_, rfl⟩
      rw [hn] at l1 ⊢
      subst l1
      clear hn HL
      go_wp2_with fail
      go_ret
      exact ⟨by rw [← RT2.out]; rfl, BL.out⟩
    | succ k =>
      have P := Lib.hid (pow_two k)
      have P0 := pow_pos2 k
      have P8 := pow_le256 (k := k) (h := h) (by omega) (by omega)
      have UH := Lib.hid (up_half HL.out)
      have hl2 : L.length = 2 * 2 ^ k := by rw [← P.out]; exact HL.out
      have AA := Lib.hid (rup_any A L.length c L wr rfl (by omega) SZ.out RD.out)
      have d1 : (1 : Int) < (L.length : Int) := by omega
      have d2 : 1 < L.length := by omega
      have US := Lib.hid (up_size (L := L))
      have RU : Hid (Sl.root k (Sl.up L) = T) := Lib.hid RT.out
      have UM : (Sl.up L).length < L.length := by rw [Sl.up_len]; omega
      have UM2 := Lib.hid UM
      generalize Sl.up L = U at *
      generalize L.length = n at *
      clear hl2 UM P0 P8
      go_wp2_with fail
      refine AA.out.mono ?_
      rintro e w2 ⟨A', c', rfl, hown, hb2⟩
      have NX : Hid (RootR h T w (.slice A' U.length c') w2) := Lib.hid ⟨k, U, A', c', rfl, by omega, UH.out, US.out, RU.out, Rd.of_own hown, BL.out.trans (hb2.mono BL.out.size)⟩
      clear hown hb2
      go_wp2_with fail
      exact ⟨NX, by simpa [slLen] using UM2.out⟩
/-- what is left of a path, at a level -/
def PathR (h : Nat) (PS : List (List UInt8)) (w : World) (l v : Value) (i : Value) (wr : World) : Prop :=
  ∃ (k : Nat) (L : List (List UInt8)) (A : Option Addr) (c j : Nat) (P : List (List UInt8)), l = .slice A L.length c ∧ i = .int .i64 (j : Int) ∧ k ≤ h ∧ L.length = 2 ^ k ∧ j < 2 ^ k ∧ (∀ t ∈ L, t.length ≤ 300) ∧ P ++ Sl.path k L j = PS ∧ P.length ≤ 100 - k ∧ Rd wr A (sv L) ∧
    wr.ownsRow w.heap.size 9 1 v P.length (sv P) ∧ (∀ g, v.ownBlock = some g → ∀ p, A = some p → p.block ≠ g) ∧ Below w.heap.size w wr
theorem rd_grown {w w' : World} {A : Option Addr} {xs : List Value} {row : Option Nat} (h : Rd w A xs) (hg : w.grownBy w' row) (hne : ∀ p, A = some p → some p.block ≠ row) : Rd w' A xs := by
  intro hp
  obtain ⟨b, off, eA, hb, hc⟩ := h hp
  refine ⟨b, off, eA, Nat.lt_of_lt_of_le hb hg.size, fun i u hu => ?_⟩
  exact (cell_same (p := ⟨b, off + i, none⟩) (hg.block b hb (hne _ eA))).trans (hc i u hu)
theorem sib_even {j : Nat} (h : j % 2 = 0) : Sl.sib j = j + 1 := by unfold Sl.sib; rw [if_pos h]
theorem sib_odd {j : Nat} (h : j % 2 = 1) : Sl.sib j = j - 1 := by unfold Sl.sib; rw [if_neg (by omega)]
theorem path_next {h k j : Nat} {L P PS : List (List UInt8)} {w w3 : World} {A' : Option Addr} {c' n' : Nat} {v2 : Value} (hk : k + 1 ≤ h) (hl : L.length = 2 ^ (k + 1)) (hj : j < 2 ^ (k + 1)) (hp : P ++ Sl.path (k + 1) L j = PS) (hpl : P.length ≤ 100 - (k + 1)) (hkk : k ≤ 99)
    (hn' : n' = P.length + 1) {w2 : World} (hown : w2.ownsRow w.heap.size 9 1 v2 n' (sv (P ++ [L.getD (Sl.sib j) []]))) (hb2 : Below w.heap.size w w2) (hown3 : w3.ownsRow w2.heap.size 9 1 (.slice A' (Sl.up L).length c') (Sl.up L).length (sv (Sl.up L))) (hb3 : Below w2.heap.size w2 w3) :
    PathR h PS w (.slice A' (Sl.up L).length c') v2 (.int .i64 ((j / 2 : Nat) : Int)) w3 := by
  subst hn'
  refine ⟨k, Sl.up L, A', c', j / 2, P ++ [L.getD (Sl.sib j) []], rfl, rfl, by omega, up_half hl, by rw [pow_two] at hj; omega, up_size, by rw [List.append_assoc, ← hp]; rfl, by rw [List.length_append]; simp; omega, Rd.of_own hown3, ?_, ?_, hb2.trans (hb3.mono hb2.size)⟩
  · rw [List.length_append]; exact own_below hown hb3 (Nat.le_refl _)
  · intro g hg p hp e
    have h1 := (hown.lt g hg).2
    rw [hp] at hown3
    have h2 := (hown3.lt p.block (by simp [Value.ownBlock])).1
    omega
set_option maxHeartbeats 4000000 in
set_option maxRecDepth 100000 in
theorem rpath_any (A : Option Addr) (n c h i : Nat) (K : List (List UInt8)) (w : World) (hn : n = K.length) (hh : h ≤ 8) (hl : K.length = 2 ^ h) (hi : i < 2 ^ h) (hs : ∀ t ∈ K, t.length ≤ 300) (hr : Rd w A (sv K)) :
    Calls Tryd.prog 37 #[.slice A n c, .int .i64 i] w (OwnP w (Sl.path h K i)) := by
  subst hn
  obtain ⟨T, hT⟩ : ∃ T, Sl.path h K i = T := ⟨_, rfl⟩
  have ST : Hid (PathR h T w (.slice A K.length c) (.slice none 0 0) (.int .i64 i) w) := Lib.hid ⟨h, K, A, c, i, [], rfl, rfl, Nat.le_refl _, hl, hi, hs, hT, Nat.zero_le _, hr, World.ownsRow_nil _ _ _ _, fun g hg => by simp [Value.ownBlock] at hg, Below.refl _ _⟩
  rw [hT]
  clear hT hl hs hr hi
  go_enter Tryd.func37, Tryd.ntmps37
  go_wp2_with fail
  go_loopw [0, 1, 5] (fun l i v wr => Hid (PathR h T w l v i wr)) (fun l _ _ _ => slLen l)
  case atStart => exact ST
  case round =>
    clear ST
    obtain ⟨k, L, A, c, j, P, rfl, rfl, hk, hl, hj, hsz, hp, hpl, hrd, hown, hsep, hbl⟩ := hrel.out
    clear hrel
    have RD := Lib.hid hrd; have BL := Lib.hid hbl; have SZ := Lib.hid hsz; have HP := Lib.hid hp; have HL := Lib.hid hl; have HJ := Lib.hid hj; have HPL := Lib.hid hpl; have HOWN := Lib.hid hown; have HSEP := Lib.hid hsep
    clear hrd hbl hsz hp hl hj hpl hown hsep
    obtain ⟨A5, c5, rfl, -, -⟩ := own_form HOWN.out
    cases k with
    | zero =>
      have l1 : L.length = 1 := HL.out
      have PE : Hid (P = T) := Lib.hid (by rw [← HP.out]; simp [Sl.path])
      obtain ⟨n, hn⟩ : ∃ n, L.length = n := ⟨_, rfl⟩
      rw [hn] at l1 ⊢
      subst l1
      clear hn HL
      go_wp2_with fail
      go_ret
      exact ⟨A5, c5, by rw [← PE.out]; rfl, by rw [← PE.out]; exact HOWN.out, BL.out⟩
    | succ k =>
      have hz : w.heap.size ≤ wr.heap.size := BL.out.size
      have P8 := pow_le256 (k := k) (h := h) (by omega) (by omega)
      have hp2 := pow_two k
      have hl2 : L.length = 2 * 2 ^ k := by rw [← hp2]; exact HL.out
      have hq : Sl.sib j < L.length := by rw [HL.out]; exact sib_lt HJ.out
      have hj2 : j < L.length := by rw [HL.out]; exact HJ.out
      have hev : L.length % 2 = 0 := by omega
      have hL1000 : L.length ≤ 1000 := by omega
      have hP1 : P.length ≤ 100 := by have := HPL.out; omega
      obtain ⟨b, off, rfl, hb, hcell⟩ := RD.out (by rw [sv_len]; omega)
      have ea := hcell (Sl.sib j) _ (getD_at hq)
      clear hcell hp2 hl2 P8
      have d1 : (1 : Int) < (L.length : Int) := by omega
      have UM : Hid ((Sl.up L).length < L.length) := Lib.hid (by rw [Sl.up_len]; omega)
      have JV : Hid (Value.int .i64 ((j : Int) / 2) = .int .i64 ((j / 2 : Nat) : Int)) := Lib.hid (by rw [show ((j / 2 : Nat) : Int) = (j : Int) / 2 by omega])
      have AA : Hid (∀ u, Rd u (some ⟨b, off, none⟩) (sv L) → Calls Tryd.prog 54 #[.slice (some ⟨b, off, none⟩) L.length c] u (OwnP u (Sl.up L))) := Lib.hid (fun u hu => rup_any (some ⟨b, off, none⟩) L.length c L u rfl hL1000 SZ.out hu)
      have NX : Hid (∀ (v2 : Value) (w2 w3 : World) (A' : Option Addr) (c' : Nat), w2.ownsRow w.heap.size 9 1 v2 (P.length + 1) (sv (P ++ [L.getD (Sl.sib j) []])) → Below w.heap.size w w2 → w3.ownsRow w2.heap.size 9 1 (.slice A' (Sl.up L).length c') (Sl.up L).length (sv (Sl.up L)) → Below w2.heap.size w2 w3 →
          PathR h T w (.slice A' (Sl.up L).length c') v2 (.int .i64 ((j / 2 : Nat) : Int)) w3) := Lib.hid (fun v2 w2 w3 A' c' a1 a2 a3 a4 => path_next hk HL.out HJ.out HP.out HPL.out (by omega) rfl a1 a2 a3 a4)
      generalize Sl.up L = U at *
      have HB := Lib.hid hb
      clear hb
      by_cases h0 : j % 2 = 0
      · rw [sib_even h0] at ea hq NX
        generalize L.getD (j + 1) [] = y at *
        have m0 : ((j : Int) % 2 == 0) = true := by rw [show (j : Int) % 2 = 0 by omega]; rfl
        have w1 : IntKind.i64.wrap ((j : Int) + 1) = (j : Int) + 1 := IntWalk.i64_in _ (by omega)
        have t1 : ((j : Int) + 1).toNat = j + 1 := by omega
        have i1 : (j : Int) + 1 < (L.length : Int) := by omega
        have i3 : (0 : Int) ≤ (j : Int) + 1 := by omega
        clear h0
        go_wp2_with (at_builtin; refine wpList_app1G rfl (.tmp 12) (.tmp 18) 22 rfl Tryd.underlying22 info_str rfl (by decide) w.heap.size (.slice A5 _ c5) _ _ wr #[.string (mkB y)] rfl ?c1 rfl rfl rfl HOWN.out hz ?c2 ?c3 ?_)
        case c1 => simp [Value.oneCell']
        case c2 => omega
        case c3 => omega
        intro v2 w2 hown2 hb2 hg2
        have R2 := Lib.hid (rd_grown ((RD.out).alloc (.cells #[.string (mkB y)] 9)) hg2 (fun p hp => by cases hp; intro e; exact HSEP.out b e.symm _ rfl rfl))
        have O2 : Hid (w2.ownsRow w.heap.size 9 1 v2 (P.length + 1) (sv (P ++ [y]))) := Lib.hid (by rw [sv_app, sv_one]; exact hown2)
        have B2 := Lib.hid (BL.out.trans hb2)
        clear hown2 hb2 hg2
        go_wp2_with fail
        refine (AA.out _ R2.out).mono ?_
        rintro e w3 ⟨A', c', rfl, hown3, hb3⟩
        have NN := Lib.hid (NX.out v2 w2 w3 A' c' O2.out B2.out hown3 hb3)
        clear hown3 hb3
        go_wp2_with fail
        exact ⟨Lib.hid (by rw [JV.out]; exact NN.out), by simpa [slLen] using UM.out⟩
      · have h1 : j % 2 = 1 := by omega
        rw [sib_odd h1] at ea hq NX
        generalize L.getD (j - 1) [] = y at *
        have m0 : ((j : Int) % 2 == 0) = false := by rw [show (j : Int) % 2 = 1 by omega]; rfl
        have w1 : IntKind.i64.wrap ((j : Int) - 1) = (j : Int) - 1 := IntWalk.i64_in _ (by omega)
        have t1 : ((j : Int) - 1).toNat = j - 1 := by omega
        have i1 : (j : Int) - 1 < (L.length : Int) := by omega
        have i2 : (1 : Int) ≤ (j : Int) := by omega
        have i3 : (0 : Int) ≤ (j : Int) - 1 := by omega
        clear h0 h1
        go_wp2_with (at_builtin; refine wpList_app1G rfl (.tmp 20) (.tmp 26) 22 rfl Tryd.underlying22 info_str rfl (by decide) w.heap.size (.slice A5 _ c5) _ _ wr #[.string (mkB y)] rfl ?d1 rfl rfl rfl HOWN.out hz ?d2 ?d3 ?_)
        case d1 => simp [Value.oneCell']
        case d2 => omega
        case d3 => omega
        intro v2 w2 hown2 hb2 hg2
        have R2 := Lib.hid (rd_grown ((RD.out).alloc (.cells #[.string (mkB y)] 9)) hg2 (fun p hp => by cases hp; intro e; exact HSEP.out b e.symm _ rfl rfl))
        have O2 : Hid (w2.ownsRow w.heap.size 9 1 v2 (P.length + 1) (sv (P ++ [y]))) := Lib.hid (by rw [sv_app, sv_one]; exact hown2)
        have B2 := Lib.hid (BL.out.trans hb2)
        clear hown2 hb2 hg2
        go_wp2_with fail
        refine (AA.out _ R2.out).mono ?_
        rintro e w3 ⟨A', c', rfl, hown3, hb3⟩
        have NN := Lib.hid (NX.out v2 w2 w3 A' c' O2.out B2.out hown3 hb3)
        clear hown3 hb3
        go_wp2_with fail
        exact ⟨Lib.hid (by rw [JV.out]; exact NN.out), by simpa [slLen] using UM.out⟩
set_option maxHeartbeats 1000000 in
theorem rpublic_any (s : ByteArray) (h : Nat) (w : World) (hs : s.size ≤ 300) (hh : h ≤ 8) :
    Calls Tryd.prog 14 #[.string s, .int .i64 h] w fun e w' => e = .returned (.tuple #[.string (mkB (Sl.publicF s.data.toList h)), .int .i64 0]) ∧ Below w.heap.size w w' := by
  have i0 : ¬ (h : Int) < 0 := by omega
  have i1 : ¬ (8 : Int) < (h : Int) := by omega
  have KA := Lib.hid (rkeys_any s h (h : Int) w rfl hs hh)
  have RA : Hid (∀ u A c, Rd u A (sv (Sl.keysF s.data.toList h)) → Calls Tryd.prog 28 #[.slice A (Sl.keysF s.data.toList h).length c] u fun e w' => e = .returned (.string (mkB (Sl.publicF s.data.toList h))) ∧ Below u.heap.size u w') := Lib.hid (fun u A c hu => rroot_any A _ c h _ u rfl hh (Sl.keysF_len _ _) keys_size hu)
  generalize Sl.keysF s.data.toList h = K at *
  go_enter Tryd.func14, Tryd.ntmps14
  go_wp2_with fail
  refine KA.out.mono ?_
  rintro e w1 ⟨A, c, rfl, hown, hb1⟩
  have R1 := Lib.hid (Rd.of_own hown); have B1 := Lib.hid hb1
  clear hown hb1
  go_wp2_with fail
  refine (RA.out _ _ _ R1.out).mono ?_
  rintro e w2 ⟨rfl, hb2⟩
  have B2 := Lib.hid (B1.out.trans (hb2.mono B1.out.size)); clear hb2
  go_wp2_with fail
  go_ret2
  exact ⟨rfl, B2.out⟩
theorem rpublic_bad (s : ByteArray) (x : Int) (w : World) (hx : x < 0 ∨ 8 < x) :
    Calls Tryd.prog 14 #[.string s, .int .i64 x] w fun e w' => e = .returned (.tuple #[.string ⟨#[]⟩, .int .i64 1]) ∧ w = w' := by
  by_cases h0 : x < 0
  · go_enter Tryd.func14, Tryd.ntmps14
    go_wp2_with fail
    go_ret2
    exact ⟨rfl, rfl⟩
  · have h8 : 8 < x := by omega
    clear hx
    go_enter Tryd.func14, Tryd.ntmps14
    go_wp2_with fail
    go_ret2
    exact ⟨rfl, rfl⟩
end Go.Proofs.YthceonkdmcidcaaDoor
