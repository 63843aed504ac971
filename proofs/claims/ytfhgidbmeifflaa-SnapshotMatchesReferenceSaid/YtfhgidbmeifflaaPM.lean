/- WALK: SnapshotMatchesReference. -/
import Derived.Test.YtfhgidbmeifflaaPL
set_option linter.unusedSimpArgs false
set_option linter.unusedVariables false
namespace Go.Proofs.Ytfhgidbmeifflaa
open Go.RowKit Go.Maps Go.ChangeMaps Go.MapKept Go.WideShapes Go.WideMaps

structure MRI (B p q k : Nat) (wr : World) (S : Sh) (T : RSh) (N : Tx → Nat → Nat) (F G : Nat → Prop) : Prop where
  is : Inv S k
  rel : Rel S T N
  rb : RBk T k
  sf : ShAt wr p F S
  rg : RefAt wr q G T
  dis : ∀ g, F g → ¬ G g
  bf : ∀ g, F g → B ≤ g
  bg : ∀ g, G g → B ≤ g
theorem RefAt.lt {w : World} {q : Nat} {G : Nat → Prop} {t : RSh} (h : RefAt w q G t) : ∀ g, G g → g < w.heap.size := by obtain ⟨vn, vr, vo, vk, vs, hh⟩ := h; exact hh.lt
theorem ShPost.pairR {u w' : World} {p q B : Nat} {F G : Nat → Prop} {s : Sh} {t : RSh} (h : ShPost u p F s w') (hG : RefAt u q G t) (hd : ∀ g, F g → ¬ G g) (hF : ∀ g, F g → B ≤ g) (hB : B ≤ u.heap.size) :
    ∃ F', ShAt w' p F' s ∧ RefAt w' q G t ∧ (∀ g, F' g → ¬ G g) ∧ (∀ g, F' g → B ≤ g) ∧ Below B u w' := by
  have GL := hG.lt
  obtain ⟨F', h1, h2, h3⟩ := h
  exact ⟨F', h1, hG.but h3 (fun g hg hf => hd g hf hg), fun g hg hgG => (h2 g hg).elim (fun e => hd g e hgG) (fun e => by have := GL g hgG; omega), fun g hg => (h2 g hg).elim (hF g) (fun e => Nat.le_trans hB e), h3.below hB hF⟩
theorem RefPost.pairS {u w' : World} {p q B : Nat} {F G : Nat → Prop} {s : Sh} {t : RSh} (h : RefPost u q G t w') (hS : ShAt u p F s) (hd : ∀ g, F g → ¬ G g) (hG : ∀ g, G g → B ≤ g) (hB : B ≤ u.heap.size) :
    ∃ G', RefAt w' q G' t ∧ ShAt w' p F s ∧ (∀ g, F g → ¬ G' g) ∧ (∀ g, G' g → B ≤ g) ∧ Below B u w' := by
  have FL : ∀ g, F g → g < u.heap.size := by obtain ⟨bm, br, nk, hd, hh⟩ := hS; exact hh.lt
  obtain ⟨G', h1, h2, h3⟩ := h
  exact ⟨G', h1, hS.but h3 (fun g hg hf => hd g hg hf), fun g hg hgG => (h2 g hgG).elim (fun e => hd g hg e) (fun e => by have := FL g hg; omega), fun g hg => (h2 g hg).elim (hG g) (fun e => Nat.le_trans hB e), h3.below hB hG⟩
set_option maxHeartbeats 8000000 in
set_option maxRecDepth 100000 in
theorem mr_any (A : Option Addr) (n c : Nat) (l : List OpV) (key : Tx) (w : World) (hn : n = l.length) (hl : n ≤ 9223372036854775807) (h : Rd w A (opsC l)) (hi : ∀ o ∈ l, OpIn o) (hk : key.length ≤ 9223372036854775807) :
    Calls Try.prog 3 #[.slice A n c, .string (mkB key)] w fun e w' => e = .returned (.bool true) ∧ Below w.heap.size w w' := by
  have HI := Lib.hid hi
  have HN := Lib.hid hn
  have RA := Lib.hid h
  have HD := Lib.hid (head_any w)
  clear h hi hn
  have ml := mkB_len key
  go_enter Try.func3, Try.ntmps3
  go_wp2_with fail
  refine HD.out.mono ?_
  rintro e w1 ⟨rfl, hb1⟩
  have BW1 := Lib.hid hb1
  have C := Lib.hid (short_any A n c l 50 w1 HN.out hl (by omega) (RA.out.below hb1))
  clear hb1 HD
  go_wp2_with fail
  refine C.out.mono ?_
  rintro e w2 ⟨rfl, hb2⟩
  have BW := Lib.hid (BW1.out.trans (hb2.mono BW1.out.size))
  clear hb2 C BW1
  cases hs : shortB l 50
  · go_wp2_with fail
    go_ret
    exact ⟨rfl, BW.out⟩
  obtain ⟨l40, lok⟩ := shortB_len hs
  have LOK := Lib.hid lok
  have LL := Lib.hid l40
  clear lok l40
  by_cases x1 : (300 : Int) < (key.length : Int)
  · go_wp2_with fail
    go_ret
    exact ⟨rfl, BW.out⟩
  go_wp2_with fail
  refine (new_any w2).mono ?_
  rintro e w3 ⟨p, F0, rfl, hs3, hf3, hb3⟩
  have S3 := Lib.hid hs3
  have SL3 : Hid (∀ g, F0 g → g < w3.heap.size) := Lib.hid (by obtain ⟨bm, br, nk, hd, hh⟩ := hs3; exact hh.lt)
  have FF3 := Lib.hid hf3
  have BW3 := Lib.hid (BW.out.trans (hb3.mono BW.out.size))
  clear hs3 hf3 hb3
  go_wp2_with fail
  refine (rnew_any w3).mono ?_
  rintro e w4 ⟨q, G0, rfl, hs4, hf4, hb4⟩
  have BW4 := Lib.hid (BW3.out.trans (hb4.mono BW3.out.size))
  have ST : Hid (∃ (S : Sh) (T : RSh) (N : Tx → Nat → Nat) (F G : Nat → Prop), MRI w.heap.size p q 0 w4 S T N F G) := Lib.hid ⟨newS, newR, _, F0, G0, Inv.new, Rel.start, RBk.start, S3.out.below hb4, hs4, fun g h1 h2 => by have := SL3.out g h1; have := hf4 g h2; omega, fun g hg => Nat.le_trans BW.out.size (FF3.out g hg), fun g hg => Nat.le_trans BW3.out.size (hf4 g hg)⟩
  clear hs4 hf4 hb4 BW S3 SL3 FF3 BW3
  go_wp2_with fail
  go_loopw [8] (fun s8 wr => ∃ k : Nat, k ≤ n ∧ s8 = .int .i64 (k : Int) ∧ Hid (∃ (S : Sh) (T : RSh) (N : Tx → Nat → Nat) (F G : Nat → Prop), MRI w.heap.size p q k wr S T N F G) ∧ Hid (Below w.heap.size w wr)) (fun i _ => n - (intOf i).toNat)
  case atStart => exact ⟨0, Nat.zero_le _, rfl, ST, BW4⟩
  case round =>
    clear ST BW4
    obtain ⟨k, hkn, rfl, SH, BW⟩ := hrel
    obtain ⟨S, T, N, F, G, RI0⟩ := SH.out
    have RI := Lib.hid RI0
    clear RI0 SH
    have LLo := LL.out
    have HNo := HN.out
    by_cases hlt : k < n
    · have hkl : k < l.length := by omega
      have d1 : (k : Int) < (n : Int) := by omega
      have d2 : (0 : Int) ≤ (k : Int) := by omega
      obtain ⟨b, off, rfl, hb, z0, z1, z2, z3, z4, z5⟩ := ops_at RA.out hkl
      have DO1 := do_any p F S l[k] k wr RI.out.is (by omega) (LOK.out _ (List.getElem_mem hkl)) (HI.out _ (List.getElem_mem hkl)).1 (HI.out _ (List.getElem_mem hkl)).2 RI.out.sf
      have DO2 := fun (u : World) (hu : RefAt u q G T) => want_any q G T l[k] k u RI.out.rb (by omega) (LOK.out _ (List.getElem_mem hkl)) (HI.out _ (List.getElem_mem hkl)).1 (HI.out _ (List.getElem_mem hkl)).2 hu
      obtain ⟨N', rel', e2⟩ := RI.out.rel.op l[k]
      have I1 := Lib.hid (doF_inv RI.out.is l[k])
      have I2 := Lib.hid (RI.out.rb.op l[k])
      unfold DoPost at DO1
      unfold WantPost at DO2
      rw [← e2] at DO2
      unfold opAgg at DO1 DO2
      have D1 := Lib.hid DO1
      have D2 := Lib.hid DO2
      have RL := Lib.hid rel'
      have CC : Hid (∀ u, Below w.heap.size w u → u.cell? ⟨b, off + k * 6, none⟩ = some (.int .u8 (l[k].kind : Int)) ∧ u.cell? ⟨b, off + k * 6 + 1, none⟩ = some (.string (mkB l[k].key)) ∧ u.cell? ⟨b, off + k * 6 + 2, none⟩ = some (.string (mkB l[k].value)) ∧ u.cell? ⟨b, off + k * 6 + 3, none⟩ = some (.string (mkB l[k].other)) ∧ u.cell? ⟨b, off + k * 6 + 4, none⟩ = some (.string (mkB l[k].second)) ∧ u.cell? ⟨b, off + k * 6 + 5, none⟩ = some (.int .u8 (l[k].n : Int))) := Lib.hid (fun u hu =>
        ⟨(hu.cell (p := ⟨b, off + k * 6, none⟩) hb).trans z0, (hu.cell (p := ⟨b, off + k * 6 + 1, none⟩) hb).trans z1, (hu.cell (p := ⟨b, off + k * 6 + 2, none⟩) hb).trans z2, (hu.cell (p := ⟨b, off + k * 6 + 3, none⟩) hb).trans z3, (hu.cell (p := ⟨b, off + k * 6 + 4, none⟩) hb).trans z4, (hu.cell (p := ⟨b, off + k * 6 + 5, none⟩) hb).trans z5⟩)
      have lkey : l[k].key.length ≤ 300 := by
        have ho := LOK.out _ (List.getElem_mem hkl)
        unfold okOp at ho
        simp at ho
        omega
      clear z0 z1 z2 z3 z4 z5 DO1 DO2 rel' e2 hb
      generalize doF S l[k] = R at *
      generalize wantF T l[k] = R' at *
      generalize l[k].kind = q0 at *
      generalize l[k].key = q1 at *
      generalize l[k].value = q2 at *
      generalize l[k].other = q3 at *
      generalize l[k].second = q4 at *
      generalize l[k].n = q5 at *
      have t1 := mkB_tl q1
      have m1 := mkB_len q1
      obtain ⟨c0, c1, c2, c3, c4, c5⟩ := CC.out wr BW.out
      clear HNo
      go_wp2_with fail
      refine D1.out.mono ?_
      rintro e w6 ⟨rfl, sp⟩
      obtain ⟨F6, s6, g6, dis6, bf6, b6⟩ := sp.pairR RI.out.rg RI.out.dis RI.out.bf BW.out.size
      have BW6 := Lib.hid (BW.out.trans b6)
      have S6 := Lib.hid s6
      have DS6 := Lib.hid dis6
      have BF6 := Lib.hid bf6
      have D3 := Lib.hid (D2.out w6 g6)
      clear sp s6 g6 dis6 bf6 b6 c0 c1 c2 c3 c4 c5 D1 D2 BW
      obtain ⟨c0, c1, c2, c3, c4, c5⟩ := CC.out w6 BW6.out
      go_wp2_with fail
      refine D3.out.mono ?_
      rintro e w7 ⟨rfl, sp⟩
      obtain ⟨G7, g7, s7, dis7, bg7, b7⟩ := sp.pairS S6.out DS6.out RI.out.bg BW6.out.size
      have BW7 := Lib.hid (BW6.out.trans b7)
      have S7 := Lib.hid s7
      have T7 := Lib.hid g7
      have NEXT : Hid (MRI w.heap.size p q (k + 1) w7 R.1 R'.1 N' F6 G7) := Lib.hid ⟨I1.out, RL.out, I2.out, s7, g7, dis7, BF6.out, bg7⟩
      have IUs := Lib.hid (I1.out.sh (by omega))
      have HA := Lib.hid (held_any p F6 R.1 w7 IUs.out s7)
      clear sp s7 g7 dis7 bg7 b7 c0 c1 c2 c3 c4 c5 D3 BW6 S6 DS6 BF6 I1 RI
      go_wp2_with fail
      refine HA.out.mono ?_
      rintro e w8 ⟨n0, rfl, hh0, hn0, b8⟩
      obtain rfl : n0 = R'.1.kept.length := Sn.held_unique hh0 RL.out.held
      have HB := Lib.hid (rheld_any q G7 R'.1 w8 (T7.out.below b8))
      have BW8 := Lib.hid (BW7.out.trans (b8.mono BW7.out.size))
      have S8 := Lib.hid (S7.out.below b8)
      have T8 := Lib.hid (T7.out.below b8)
      have B8 := Lib.hid b8
      clear b8 hh0 HA BW7 S7 T7
      go_wp2_with fail
      refine HB.out.mono ?_
      rintro e w9 ⟨rfl, b9⟩
      have BW9 := Lib.hid (BW8.out.trans (b9.mono BW8.out.size))
      have S9 := Lib.hid (S8.out.below b9)
      have T9 := Lib.hid (T8.out.below b9)
      have B9 := Lib.hid (B8.out.trans (b9.mono B8.out.size))
      clear b9 HB BW8 S8 T8 B8
      go_wp2_with fail
      go_loopw [13] (fun s13 wx => ∃ j : Nat, j ≤ 6 ∧ s13 = .int .i64 (j : Int) ∧ Hid (Below w9.heap.size w9 wx)) (fun i _ => 6 - (intOf i).toNat)
      case atStart => exact ⟨0, by omega, rfl, Lib.hid (Below.refl _ _)⟩
      case round =>
        obtain ⟨j, hj6, rfl, BX⟩ := hrel
        by_cases hlt3 : j < 6
        · have d4 : (j : Int) < 6 := by omega
          have RDS : ∀ l ∈ R'.1.readers, l.length ≤ 1000000 := fun l hl => by have := I2.out.rd l hl; omega
          have RDH := Lib.hid RDS
          clear RDS
          have Q1E := Lib.hid (RL.out.read j key)
          have Q2E := Lib.hid (RL.out.read j q1)
          have C0 := read_any p F6 R.1 j (mkB key) wr IUs.out (S9.out.below BX.out) (by omega) (by rw [mkB_len]; omega)
          unfold ReadSaid at C0
          rw [mkB_list] at C0
          have C := Lib.hid C0
          clear C0
          generalize hQ1 : readF R.1 j key = Q1 at *
          generalize hQ2 : readF R.1 j q1 = Q2 at *
          have hq1' := Lib.hid hQ1
          have hq2' := Lib.hid hQ2
          clear hQ1 hQ2
          go_wp2_with fail
          refine C.out.mono ?_
          rintro e w10 ⟨rfl, b10⟩
          have BX10 := Lib.hid (BX.out.trans (b10.mono BX.out.size))
          clear b10 C BX
          have C0 := rread_any q G7 R'.1 j key w10 (T9.out.below BX10.out) (by omega) RDH.out
          rw [Q1E.out] at C0
          have C := Lib.hid C0
          clear C0
          go_wp2_with fail
          refine C.out.mono ?_
          rintro e w11 ⟨rfl, b11⟩
          have BX11 := Lib.hid (BX10.out.trans (b11.mono BX10.out.size))
          clear b11 C BX10
          have C0 := read_any p F6 R.1 j (mkB q1) w11 IUs.out (S9.out.below BX11.out) (by omega) (by rw [mkB_len]; omega)
          unfold ReadSaid at C0
          rw [mkB_list] at C0
          rw [hq2'.out] at C0
          have C := Lib.hid C0
          clear C0
          obtain ⟨c0, c1, c2, c3, c4, c5⟩ := CC.out w11 (BW9.out.trans (BX11.out.mono BW9.out.size))
          go_wp2_with fail
          refine C.out.mono ?_
          rintro e w12 ⟨rfl, b12⟩
          have BX12 := Lib.hid (BX11.out.trans (b12.mono BX11.out.size))
          clear b12 C BX11 c0 c1 c2 c3 c4 c5
          have C0 := rread_any q G7 R'.1 j q1 w12 (T9.out.below BX12.out) (by omega) RDH.out
          rw [Q2E.out] at C0
          have C := Lib.hid C0
          clear C0
          obtain ⟨c0, c1, c2, c3, c4, c5⟩ := CC.out w12 (BW9.out.trans (BX12.out.mono BW9.out.size))
          go_wp2_with fail
          refine C.out.mono ?_
          rintro e w13 ⟨rfl, b13⟩
          have BX13 := Lib.hid (BX12.out.trans (b13.mono BX12.out.size))
          clear b13 C BX12 c0 c1 c2 c3 c4 c5
          go_wp2_with fail
          exact ⟨⟨j + 1, by omega, by go_num, BX13⟩, by simp [intOf]; omega⟩
        · have d4 : ¬ (j : Int) < 6 := by omega
          have FIN := Lib.hid (show Hid (∃ (S : Sh) (T : RSh) (N : Tx → Nat → Nat) (F G : Nat → Prop), MRI w.heap.size p q (k + 1) wr S T N F G) ∧ Hid (Below w.heap.size w wr) from by
            have a := NEXT.out
            exact ⟨Lib.hid ⟨R.1, R'.1, N', F6, G7, a.is, a.rel, a.rb, S9.out.below BX.out, T9.out.below BX.out, a.dis, a.bf, a.bg⟩, Lib.hid (BW9.out.trans (BX.out.mono BW9.out.size))⟩)
          go_wp2_with fail
          exact ⟨⟨k + 1, by omega, by go_num, FIN.out.1, FIN.out.2⟩, by simp [intOf]; omega⟩
    · have d1 : ¬ (k : Int) < (n : Int) := by omega
      go_wp2_with fail
      go_ret
      exact ⟨rfl, BW.out⟩
end Go.Proofs.Ytfhgidbmeifflaa
