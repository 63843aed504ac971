/- WALK: SnapshotRemoved. -/
import Derived.Test.YtfhgidbmeifflaaOC
set_option linter.unusedSimpArgs false
set_option linter.unusedVariables false
namespace Go.Proofs.Ytfhgidbmeifflaa
open Go.RowKit Go.Maps Go.ChangeMaps Go.MapKept Go.WideShapes Go.WideMaps

structure RemI (key : Tx) (B p q k : Nat) (wr : World) (S T : Sh) (F G : Nat → Prop) : Prop where
  is : Inv S k
  it : Inv T k
  rel : RelK key S T
  gs : GE S
  gt : GE T
  sf : ShAt wr p F S
  sg : ShAt wr q G T
  dis : ∀ g, F g → ¬ G g
  bf : ∀ g, F g → B ≤ g
  bg : ∀ g, G g → B ≤ g
theorem ShAt.lt {w : World} {p : Nat} {F : Nat → Prop} {s : Sh} (h : ShAt w p F s) : ∀ g, F g → g < w.heap.size := by obtain ⟨bm, br, nk, hd, hh⟩ := h; exact hh.lt
theorem swap_ok {key value : Tx} {o : OpV} (ho : okOp o = true) (hv : value.length ≤ 300) : okOp (swapO key value o) = true := by
  have h : o.key.length ≤ 300 ∧ o.value.length ≤ 300 ∧ o.other.length ≤ 300 ∧ o.second.length ≤ 300 := by unfold okOp at ho; simp at ho; omega
  have h1 : (if o.key = key then value else o.value).length ≤ 300 := by split <;> omega
  have h2 : (if o.other = key then value else o.second).length ≤ 300 := by split <;> omega
  unfold okOp swapO
  dsimp only
  simp
  omega
set_option maxHeartbeats 8000000 in
set_option maxRecDepth 100000 in
theorem removed_any (A : Option Addr) (n c : Nat) (l : List OpV) (key value probe : Tx) (w : World) (hn : n = l.length) (hl : n ≤ 9223372036854775807) (h : Rd w A (opsC l)) (hi : ∀ o ∈ l, OpIn o) (hk : key.length ≤ 9223372036854775807) (hkv : value.length ≤ 9223372036854775807) (hkp : probe.length ≤ 9223372036854775807) :
    Calls Try.prog 7 #[.slice A n c, .string (mkB key), .string (mkB value), .string (mkB probe)] w fun e w' => e = .returned (.bool true) ∧ Below w.heap.size w w' := by
  have HI := Lib.hid hi
  have HN := Lib.hid hn
  have RA := Lib.hid h
  have HD := Lib.hid (head_any w)
  clear h hi hn
  have ml := mkB_len key
  have mlv := mkB_len value
  have mlp := mkB_len probe
  have tk := mkB_tl key
  go_enter Try.func7, Try.ntmps7
  go_wp2_with fail
  refine HD.out.mono ?_
  rintro e w1 ⟨rfl, hb1⟩
  have BW1 := Lib.hid hb1
  have C := Lib.hid (short_any A n c l 40 w1 HN.out hl (by omega) (RA.out.below hb1))
  clear hb1 HD
  go_wp2_with fail
  refine C.out.mono ?_
  rintro e w2 ⟨rfl, hb2⟩
  have BW := Lib.hid (BW1.out.trans (hb2.mono BW1.out.size))
  clear hb2 C BW1
  cases hs : shortB l 40
  · go_wp2_with fail
    go_ret
    exact ⟨rfl, BW.out⟩
  obtain ⟨l40, lok⟩ := shortB_len hs
  have LOK := Lib.hid lok
  have LL := Lib.hid l40
  clear lok l40
  by_cases x1 : (300 : Int) < (key.length : Int)
  · go_wp2_with fail
    go_ret
    exact ⟨rfl, BW.out⟩
  by_cases x2 : (300 : Int) < (value.length : Int)
  · go_wp2_with fail
    go_ret
    exact ⟨rfl, BW.out⟩
  by_cases x3 : (300 : Int) < (probe.length : Int)
  · go_wp2_with fail
    go_ret
    exact ⟨rfl, BW.out⟩
  go_wp2_with fail
  refine (new_any w2).mono ?_
  rintro e w3 ⟨p, F0, rfl, hs3, hf3, hb3⟩
  have S3 := Lib.hid hs3
  have FF3 := Lib.hid hf3
  have BW3 := Lib.hid (BW.out.trans (hb3.mono BW.out.size))
  clear hs3 hf3 hb3
  go_wp2_with fail
  refine (new_any w3).mono ?_
  rintro e w4 ⟨q, G0, rfl, hs4, hf4, hb4⟩
  have BW4 := Lib.hid (BW3.out.trans (hb4.mono BW3.out.size))
  have ST : Hid (∃ (S T : Sh) (F G : Nat → Prop), RemI key w.heap.size p q 0 w4 S T F G) := Lib.hid ⟨newS, newS, F0, G0, Inv.new, Inv.new, RelK.refl _ _, GE.new, GE.new, S3.out.below hb4, hs4, fun g h1 h2 => by have := S3.out.lt g h1; have := hf4 g h2; omega, fun g hg => Nat.le_trans BW.out.size (FF3.out g hg), fun g hg => Nat.le_trans BW3.out.size (hf4 g hg)⟩
  clear hs4 hf4 hb4 BW S3 FF3 BW3
  go_wp2_with fail
  go_loopw [12] (fun s12 wr => ∃ k : Nat, k ≤ n ∧ s12 = .int .i64 (k : Int) ∧ Hid (∃ (S T : Sh) (F G : Nat → Prop), RemI key w.heap.size p q k wr S T F G) ∧ Hid (Below w.heap.size w wr)) (fun i _ => n - (intOf i).toNat)
  case atStart => exact ⟨0, Nat.zero_le _, rfl, ST, BW4⟩
  case round =>
    clear ST BW4
    obtain ⟨k, hkn, rfl, SH, BW⟩ := hrel
    obtain ⟨S, T, F, G, RI0⟩ := SH.out
    have RI := Lib.hid RI0
    clear RI0 SH
    have LLo := LL.out
    have HNo := HN.out
    by_cases hlt : k < n
    · have hkl : k < l.length := by omega
      have d1 : (k : Int) < (n : Int) := by omega
      have d2 : (0 : Int) ≤ (k : Int) := by omega
      obtain ⟨b, off, rfl, hb, c0, c1, c2, c3, c4, c5⟩ := ops_at (RA.out.below BW.out) hkl
      have SW := Lib.hid (swap_step (value := value) RI.out.rel RI.out.is l[k] (by omega) (LOK.out _ (List.getElem_mem hkl)))
      have OKs := swap_ok (key := key) (value := value) (LOK.out _ (List.getElem_mem hkl)) (by omega)
      have ba : ∀ cs, Below wr.heap.size wr (wr.alloc cs) := fun cs => (Below.refl _ _).alloc (Nat.le_refl _) cs
      have DO1 := fun cs => do_any p F S l[k] k (wr.alloc cs) RI.out.is (by omega) (LOK.out _ (List.getElem_mem hkl)) (HI.out _ (List.getElem_mem hkl)).1 (HI.out _ (List.getElem_mem hkl)).2 (RI.out.sf.below (ba cs))
      have DO2 := fun (u : World) (hu : ShAt u q G T) => do_any q G T (swapO key value l[k]) k u RI.out.it (by omega) OKs (HI.out _ (List.getElem_mem hkl)).1 (HI.out _ (List.getElem_mem hkl)).2 hu
      have I1 := Lib.hid (doF_inv RI.out.is l[k])
      have I2 := Lib.hid (doF_inv RI.out.it (swapO key value l[k]))
      have G1 := Lib.hid (RI.out.gs.step l[k])
      have G2 := Lib.hid (RI.out.gt.step (swapO key value l[k]))
      have ag : opAgg (swapO key value l[k]) = .agg #[.int .u8 (l[k].kind : Int), .string (mkB l[k].key), .string (mkB (if l[k].key = key then value else l[k].value)), .string (mkB l[k].other), .string (mkB (if l[k].other = key then value else l[k].second)), .int .u8 (l[k].n : Int)] := rfl
      rw [ag] at DO2
      unfold DoPost at DO2
      rw [← SW.out.2] at DO2
      unfold opAgg at DO1
      have D1 := Lib.hid DO1
      have D2 := Lib.hid DO2
      clear DO1 DO2 ag OKs ba
      generalize doF S l[k] = R at *
      generalize doF T (swapO key value l[k]) = R' at *
      generalize l[k].kind = q0 at *
      generalize l[k].key = q1 at *
      generalize l[k].value = q2 at *
      generalize l[k].other = q3 at *
      generalize l[k].second = q4 at *
      generalize l[k].n = q5 at *
      have t1 := mkB_tl q1
      have t3 := mkB_tl q3
      clear HNo
      go_wp2_with fail
      refine (D1.out _).mono ?_
      rintro e w6 ⟨rfl, sp⟩
      have bF : ¬ F wr.heap.size := fun h => Nat.lt_irrefl _ (RI.out.sf.lt _ h)
      have bG : ¬ G wr.heap.size := fun h => Nat.lt_irrefl _ (RI.out.sg.lt _ h)
      have KB : w6.heap[wr.heap.size]? = some (.cells #[.int .u8 (q0 : Int), .string (mkB q1), .string (mkB q2), .string (mkB q3), .string (mkB q4), .int .u8 (q5 : Int)] 33 (0, 0)) := by
        obtain ⟨_, _, _, hbut⟩ := sp
        exact (hbut.block _ (by simp) bF).trans (heap_alloc_new wr _)
      have ba : Below wr.heap.size wr (wr.alloc (.cells #[.int .u8 (q0 : Int), .string (mkB q1), .string (mkB q2), .string (mkB q3), .string (mkB q4), .int .u8 (q5 : Int)] 33)) := (Below.refl _ _).alloc (Nat.le_refl _) _
      obtain ⟨F6, s6, g6, dis6, bf6, b6, nf6⟩ := sp.pair (RI.out.sg.below ba) RI.out.dis RI.out.bf (Nat.le_trans BW.out.size ba.size)
      have B6 : Below w.heap.size w w6 := BW.out.trans ((ba.mono BW.out.size).trans b6)
      have bz : w.heap.size ≤ wr.heap.size := BW.out.size
      have FIN := Lib.hid (fun (u w9 : World) (h1 : Below w.heap.size w6 u) (h2 : But (· = wr.heap.size) w6 u) (h6 : ShAt u p F6 R.1) (sp2 : ShPost u q G R'.1 w9) => show Hid (∃ (S T : Sh) (F G : Nat → Prop), RemI key w.heap.size p q (k + 1) w9 S T F G) ∧ Hid (Below w.heap.size w w9) from (by
        obtain ⟨G9, s9, f9, dis9, bg9, b9, -⟩ := sp2.pair h6 (fun g hg hf => dis6 g hf hg) RI.out.bg (Nat.le_trans B6.size h1.size)
        exact ⟨Lib.hid ⟨R.1, R'.1, F6, G9, I1.out, I2.out, SW.out.1, G1.out, G2.out, f9, s9, fun g h3 h4 => dis9 g h4 h3, bf6, bg9⟩, Lib.hid (B6.trans (h1.trans b9))⟩))
      have F6n : ¬ F6 wr.heap.size := fun h => by
        rcases nf6 _ h with h1 | h1
        · exact bF h1
        · simp at h1; omega
      have S6 := Lib.hid s6
      have GG6 := Lib.hid g6
      have k0 : w6.cell? ⟨wr.heap.size, 0, none⟩ = some (.int .u8 (q0 : Int)) := cell_of_row w6 _ 0 _ _ _ KB
      have k1 : w6.cell? ⟨wr.heap.size, 1, none⟩ = some (.string (mkB q1)) := cell_of_row w6 _ 1 _ _ _ KB
      have k2 : w6.cell? ⟨wr.heap.size, 2, none⟩ = some (.string (mkB q2)) := cell_of_row w6 _ 2 _ _ _ KB
      have k3 : w6.cell? ⟨wr.heap.size, 3, none⟩ = some (.string (mkB q3)) := cell_of_row w6 _ 3 _ _ _ KB
      have k4 : w6.cell? ⟨wr.heap.size, 4, none⟩ = some (.string (mkB q4)) := cell_of_row w6 _ 4 _ _ _ KB
      have k5 : w6.cell? ⟨wr.heap.size, 5, none⟩ = some (.int .u8 (q5 : Int)) := cell_of_row w6 _ 5 _ _ _ KB
      have f2 := free_blk KB 2
      have f4 := free_blk KB 4
      have z6 := lt_of_block KB
      clear sp s6 g6 b6 ba KB B6 dis6 bf6 nf6 D1 I1 I2 G1 G2
      generalize hbo : wr.heap.size = bo at *
      have U0 : Hid (ShAt w6 q G T ∧ ShAt w6 p F6 R.1 ∧ Below w.heap.size w6 w6 ∧ But (· = bo) w6 w6) := Lib.hid ⟨GG6.out, S6.out, Below.refl _ _, But.refl _ _⟩
      have US : Hid (∀ (u : World) (f : Nat) (v : Value), (ShAt u q G T ∧ ShAt u p F6 R.1 ∧ Below w.heap.size w6 u ∧ But (· = bo) w6 u) → (ShAt (u.setCell ⟨bo, f, none⟩ v) q G T ∧ ShAt (u.setCell ⟨bo, f, none⟩ v) p F6 R.1 ∧ Below w.heap.size w6 (u.setCell ⟨bo, f, none⟩ v) ∧ But (· = bo) w6 (u.setCell ⟨bo, f, none⟩ v))) := Lib.hid (fun u f v ⟨a1, a2, a3, a4⟩ => by
        have hb1 : But (· = bo) u (u.setCell ⟨bo, f, none⟩ v) := But.set (X := (· = bo)) (p := ⟨bo, f, none⟩) (But.refl _ _) rfl v
        exact ⟨a1.but hb1 (fun g hg e => bG (e ▸ hg)), a2.but hb1 (fun g hg e => F6n (e ▸ hg)), a3.setCell bz v, a4.trans hb1⟩)
      clear GG6 S6 bF bG F6n
      have endg : ∀ {a : Nat} (u w9 : World), ShPost u q G R'.1 w9 → Hid (ShAt u q G T ∧ ShAt u p F6 R.1 ∧ Below w.heap.size w6 u ∧ But (· = bo) w6 u) → Hid (∃ (S T : Sh) (F G : Nat → Prop), RemI key w.heap.size p q (k + 1) w9 S T F G) ∧ Hid (Below w.heap.size w w9) := fun u w9 h1 h2 => FIN.out u w9 h2.out.2.2.1 h2.out.2.2.2 h2.out.2.1 h1
      have EN := Lib.hid (@endg 0)
      clear endg FIN
      by_cases y1 : q1 = key
      · have z1 : (q1 == key) = true := by rw [y1]; simp
        have D3 := D2.out
        simp only [if_pos y1] at D3
        by_cases y3 : q3 = key
        · have z3 : (q3 == key) = true := by rw [y3]; simp
          simp only [if_pos y3] at D3
          have U2 := Lib.hid (US.out _ 4 (.string (mkB value)) (US.out w6 2 (.string (mkB value)) U0.out))
          have D4 := Lib.hid (D3 _ U2.out.1)
          clear D3 D2 y1 y3 US U0
          go_wp2_with fail
          refine D4.out.mono ?_
          rintro e w9 ⟨rfl, sp2⟩
          have EE := EN.out _ w9 sp2 U2
          clear sp2 D4
          go_wp2_with fail
          exact ⟨⟨k + 1, by omega, by go_num, EE.1, EE.2⟩, by simp [intOf]; omega⟩
        · have z3 : (q3 == key) = false := by simpa using y3
          simp only [if_neg y3] at D3
          have U2 := Lib.hid (US.out w6 2 (.string (mkB value)) U0.out)
          have D4 := Lib.hid (D3 _ U2.out.1)
          clear D3 D2 y1 y3 US U0
          go_wp2_with fail
          refine D4.out.mono ?_
          rintro e w9 ⟨rfl, sp2⟩
          have EE := EN.out _ w9 sp2 U2
          clear sp2 D4
          go_wp2_with fail
          exact ⟨⟨k + 1, by omega, by go_num, EE.1, EE.2⟩, by simp [intOf]; omega⟩
      · have z1 : (q1 == key) = false := by simpa using y1
        have D3 := D2.out
        simp only [if_neg y1] at D3
        by_cases y3 : q3 = key
        · have z3 : (q3 == key) = true := by rw [y3]; simp
          simp only [if_pos y3] at D3
          have U2 := Lib.hid (US.out w6 4 (.string (mkB value)) U0.out)
          have D4 := Lib.hid (D3 _ U2.out.1)
          clear D3 D2 y1 y3 US U0
          go_wp2_with fail
          refine D4.out.mono ?_
          rintro e w9 ⟨rfl, sp2⟩
          have EE := EN.out _ w9 sp2 U2
          clear sp2 D4
          go_wp2_with fail
          exact ⟨⟨k + 1, by omega, by go_num, EE.1, EE.2⟩, by simp [intOf]; omega⟩
        · have z3 : (q3 == key) = false := by simpa using y3
          simp only [if_neg y3] at D3
          have U2 := U0
          have D4 := Lib.hid (D3 _ U2.out.1)
          clear D3 D2 y1 y3 US U0
          go_wp2_with fail
          refine D4.out.mono ?_
          rintro e w9 ⟨rfl, sp2⟩
          have EE := EN.out _ w9 sp2 U2
          clear sp2 D4
          go_wp2_with fail
          exact ⟨⟨k + 1, by omega, by go_num, EE.1, EE.2⟩, by simp [intOf]; omega⟩
    · have d1 : ¬ (k : Int) < (n : Int) := by omega
      have IS := RI.out.is
      have k40 : k ≤ 40 := by omega
      have FA0 := forget_any p F S (mkB key) wr (IS.sh (by omega)) RI.out.sf (by rw [mkB_len]; omega)
      rw [mkB_list] at FA0
      have FA := Lib.hid FA0
      have FE := (RI.out.rel.forget key).2
      have FU := RI.out.rel.forgotten RI.out.gs RI.out.gt
      have NR := Lib.hid (fun r => forget_none IS key r)
      have IU := IS.forget key
      have FB0 := fun (u : World) (hu : ShAt u q G T) => forget_any q G T (mkB key) u (RI.out.it.sh (by omega)) hu (by rw [mkB_len]; omega)
      rw [mkB_list, ← FE, ← FU] at FB0
      have FB := Lib.hid FB0
      clear FA0 FB0 FE FU HNo
      generalize forgetF S key = U at *
      go_wp2_with fail
      refine FA.out.mono ?_
      rintro e w6 ⟨rfl, sp⟩
      obtain ⟨F6, s6, g6, dis6, bf6, b6, -⟩ := sp.pair RI.out.sg RI.out.dis RI.out.bf BW.out.size
      have BW6 := Lib.hid (BW.out.trans b6)
      have FC := Lib.hid (FB.out w6 g6)
      have S6 := Lib.hid s6
      have DS6 := Lib.hid dis6
      have BF6 := Lib.hid bf6
      clear sp s6 g6 dis6 bf6 b6 FA FB BW
      go_wp2_with fail
      refine FC.out.mono ?_
      rintro e w7 ⟨rfl, sp⟩
      obtain ⟨G7, g7, s7, dis7, bg7, b7, -⟩ := sp.pair S6.out (fun g hg hf => DS6.out g hf hg) RI.out.bg BW6.out.size
      have BW7 := Lib.hid (BW6.out.trans b7)
      have S7 := Lib.hid s7
      have T7 := Lib.hid g7
      have D7 := Lib.hid dis7
      have BG7 := Lib.hid bg7
      have IUs := IU.sh (by omega)
      have HA := Lib.hid (held_any p F6 U.1 w7 IUs s7)
      clear sp s7 g7 dis7 bg7 b7 FC BW6 S6 DS6
      go_wp2_with fail
      refine HA.out.mono ?_
      rintro e w8 ⟨n0, rfl, hh0, hn0, b8⟩
      have HB := Lib.hid (held_any q G7 U.1 w8 IUs (T7.out.below b8))
      have BW8 := Lib.hid (BW7.out.trans (b8.mono BW7.out.size))
      have S8 := Lib.hid (S7.out.below b8)
      have T8 := Lib.hid (T7.out.below b8)
      have HH0 := Lib.hid hh0
      clear b8 hh0 HA BW7 S7 T7
      go_wp2_with fail
      refine HB.out.mono ?_
      rintro e w9 ⟨n1, rfl, hh1, hn1, b9⟩
      obtain rfl : n1 = n0 := Sn.held_unique hh1 HH0.out
      have BW9 := Lib.hid (BW8.out.trans (b9.mono BW8.out.size))
      have S9 := Lib.hid (S8.out.below b9)
      have T9 := Lib.hid (T8.out.below b9)
      clear b9 hh1 HB BW8 S8 T8
      go_wp2_with fail
      go_loopw [18] (fun s18 wx => ∃ j : Nat, j ≤ 42 ∧ s18 = .int .i64 (j : Int) ∧ Hid (Below w9.heap.size w9 wx)) (fun i _ => 42 - (intOf i).toNat)
      case atStart => exact ⟨0, by omega, rfl, Lib.hid (Below.refl _ _)⟩
      case round =>
        obtain ⟨j, hj42, rfl, BX⟩ := hrel
        by_cases hlt3 : j < 42
        · have d4 : (j : Int) ≤ 41 := by omega
          have NRj := NR.out j
          have C0 := read_any p F6 U.1 j (mkB probe) wr IUs (S9.out.below BX.out) (by omega) (by rw [mkB_len]; omega)
          unfold ReadSaid at C0
          rw [mkB_list] at C0
          have C := Lib.hid C0
          clear C0
          generalize hQ1 : readF U.1 j probe = Q1 at *
          generalize hQ2 : readF U.1 j key = Q2 at *
          have hq1' := Lib.hid hQ1
          have hq2' := Lib.hid hQ2
          clear hQ1 hQ2
          go_wp2_with fail
          refine C.out.mono ?_
          rintro e w10 ⟨rfl, b⟩
          have BX10 := Lib.hid (BX.out.trans (b.mono BX.out.size))
          clear b C BX
          have hQ1 := hq1'.out
          have hQ2 := hq2'.out
          clear hq1' hq2'
          have C0 := read_any q G7 U.1 j (mkB probe) w10 IUs (T9.out.below BX10.out) (by omega) (by rw [mkB_len]; omega)
          unfold ReadSaid at C0
          rw [mkB_list] at C0
          rw [hQ1] at C0
          have C := Lib.hid C0
          clear C0
          have hq1' := Lib.hid hQ1
          have hq2' := Lib.hid hQ2
          clear hQ1 hQ2
          go_wp2_with fail
          refine C.out.mono ?_
          rintro e w11 ⟨rfl, b⟩
          have BX11 := Lib.hid (BX10.out.trans (b.mono BX10.out.size))
          clear b C BX10
          have hQ1 := hq1'.out
          have hQ2 := hq2'.out
          clear hq1' hq2'
          have C0 := read_any p F6 U.1 j (mkB key) w11 IUs (S9.out.below BX11.out) (by omega) (by rw [mkB_len]; omega)
          unfold ReadSaid at C0
          rw [mkB_list] at C0
          rw [hQ2] at C0
          have C := Lib.hid C0
          clear C0
          have hq1' := Lib.hid hQ1
          have hq2' := Lib.hid hQ2
          clear hQ1 hQ2
          go_wp2_with fail
          refine C.out.mono ?_
          rintro e w12 ⟨rfl, b⟩
          have BX12 := Lib.hid (BX11.out.trans (b.mono BX11.out.size))
          clear b C BX11
          have hQ1 := hq1'.out
          have hQ2 := hq2'.out
          clear hq1' hq2'
          have C0 := read_any q G7 U.1 j (mkB key) w12 IUs (T9.out.below BX12.out) (by omega) (by rw [mkB_len]; omega)
          unfold ReadSaid at C0
          rw [mkB_list] at C0
          rw [hQ2] at C0
          have C := Lib.hid C0
          clear C0
          have hq1' := Lib.hid hQ1
          have hq2' := Lib.hid hQ2
          clear hQ1 hQ2
          go_wp2_with fail
          refine C.out.mono ?_
          rintro e w13 ⟨rfl, b⟩
          have BX13 := Lib.hid (BX12.out.trans (b.mono BX12.out.size))
          clear b C BX12
          have hQ1 := hq1'.out
          have hQ2 := hq2'.out
          clear hq1' hq2'
          clear hQ1 hQ2
          have q0 : ((Q2.2 : Int) == 0) = false := by simp; exact NRj
          go_wp2_with fail
          exact ⟨⟨j + 1, by omega, by go_num, BX13⟩, by simp [intOf]; omega⟩
        · have d4 : ¬ (j : Int) ≤ 41 := by omega
          have CA := Lib.hid (collect_any p F6 U.1 wr IUs IU.nrd (S9.out.below BX.out))
          go_wp2_with fail
          refine CA.out.mono ?_
          rintro e w10 ⟨ts, m0, m1, ht, hm0, hm1, rfl, sp⟩
          have T10 := T9.out.below BX.out
          have BWr := BW9.out.trans (BX.out.mono BW9.out.size)
          have tb : ShAt w10 q G7 U.1 ∧ Below w.heap.size w10 w10 := by
            obtain ⟨F', h1, h2, h3⟩ := sp
            exact ⟨T10.but h3 (fun g hg hf => D7.out g hg hf), Below.refl _ _⟩
          have CB := Lib.hid (collect_any q G7 U.1 w10 IUs IU.nrd tb.1)
          have M0 := Lib.hid hm0
          have M1 := Lib.hid hm1
          have TS := Lib.hid ht
          have SPH := Lib.hid sp
          clear hm0 hm1 ht sp tb T10 CA
          go_wp2_with fail
          refine CB.out.mono ?_
          rintro e w11 ⟨ts', l0, l1, ht', hl0, hl1, rfl, sp'⟩
          obtain rfl : l0 = m0 := Sn.held_unique hl0 M0.out
          rw [(times_eq ht').1, ← (times_eq TS.out).1] at hl1
          obtain rfl : l1 = m1 := Sn.held_unique hl1 M1.out
          clear hl0 hl1 ht' CB
          go_wp2_with fail
          go_ret
          obtain ⟨_, _, _, q1⟩ := SPH.out.base (B := w.heap.size) BF6.out BWr.size
          obtain ⟨_, _, _, q2⟩ := sp'.base (B := w.heap.size) BG7.out (Nat.le_trans BWr.size q1.size)
          exact ⟨by simp, (BWr.trans q1).trans q2⟩
end Go.Proofs.Ytfhgidbmeifflaa
