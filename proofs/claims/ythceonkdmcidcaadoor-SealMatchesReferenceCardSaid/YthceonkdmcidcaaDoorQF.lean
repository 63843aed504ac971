/- WALKS: the reference's Joined. -/
import Derived.Test.YthceonkdmcidcaaDoorQE
import Derived.Lib.AppendStr
import Derived.Laws.IdiomStrings
import Derived.Laws.BytesArg
import Derived.Laws.MakeOwn
set_option linter.unusedSimpArgs false
set_option linter.unusedVariables false
namespace Go.Proofs.YthceonkdmcidcaaDoor
open Go.RowKit

theorem info_u8 : (Tryd.prog.info? 5).map (fun i => (i.zero, i.size, i.bytes)) = some (some (.int .u8 0), 1, 1) := by kernel_rfl
theorem mk_bytes (n : Nat) (h : n ≤ 140737488355328) (w : World) : ∃ W, (Instr.makeSlice 80 (.int .i64 0) (.int .i64 (n : Int))).run Tryd.prog w = .ok (.slice (some ⟨w.heap.size, 0, none⟩) 0 n) W ∧
    W.ownsRow w.heap.size 5 1 (.slice (some ⟨w.heap.size, 0, none⟩) 0 n) 0 [] ∧ Below w.heap.size w W := by
  obtain ⟨i, hi, hz, hs, hb⟩ := info_parts info_u8
  obtain ⟨W, h1, h2, h3⟩ := run_make_own (P := Tryd.prog) w w.heap.size 80 5 i (.int .u8 0) 1 Tryd.underlying80 hi hz hs .i64 .i64 n (by rw [hb]; omega) (by unfold maxLen; omega) (Nat.le_refl _)
  exact ⟨W, h1, h2, h3.os, h3.tape, h3.output, h3.size, fun k hk => h3.block k hk (by simp)⟩
theorem elem_cells (d s : List UInt8) : Lib.byteCells d ++ [Value.int .u8 58] ++ Lib.byteCells s = Lib.byteCells (d ++ 58 :: s) := by
  simp [Lib.byteCells]
theorem conv_own {w : World} {B : Nat} {A : Option Addr} {n c : Nat} {l : List UInt8} (h : w.ownsRow B 5 1 (.slice A n c) n (Lib.byteCells l)) (hn : n = l.length) :
    (convert 80 9 (.slice A n c)).run Tryd.prog w = .ok (.string ⟨l.toArray⟩) w := by
  subst hn
  have hr := Rd.of_own h
  cases A with
  | none =>
    have h0 : l = [] := by
      rcases Nat.eq_zero_or_pos l.length with h0 | h0
      · exact List.eq_nil_of_length_eq_zero h0
      · obtain ⟨b, off, e, _⟩ := hr (by simpa [Lib.byteCells] using h0); cases e
    subst h0
    exact run_convert_bytes_nil w 80 5 Tryd.underlying80 Tryd.underlying5 0 c 9 Tryd.underlying9
  | some a =>
    refine run_convert_bytes_back (P := Tryd.prog) w 80 9 5 a c l Tryd.underlying80 Tryd.underlying5 Tryd.underlying9 (fun j hj => ?_)
    obtain ⟨b, off, e, _, hc⟩ := hr (by simp [Lib.byteCells]; omega)
    cases e
    rw [Addr.add_lit]
    exact hc j _ (by simp [Lib.byteCells, hj])
theorem own_cast {w : World} {base : Nat} {e : TypeId} {size n n' : Nat} {v : Value} {xs xs' : List Value} (h : w.ownsRow base e size v n xs) (hn : n = n') (hx : xs = xs') : w.ownsRow base e size v n' xs' := by subst hn hx; exact h
set_option maxHeartbeats 2000000 in
set_option maxRecDepth 100000 in
theorem joined_any (A : Option Addr) (n c : Nat) (l : List ByteArray) (w : World) (hn : n = l.length) (hlen : l.length ≤ 30) (hs : ∀ s ∈ l, s.size ≤ 300) (h : Rd w A (l.map Value.string)) :
    Calls Tryd.prog 47 #[.slice A n c] w fun e w' => e = .returned (.string ⟨(Dg.joined (bys l)).toArray⟩) ∧ Below w.heap.size w w' := by
  subst hn
  obtain ⟨i0, hi, hz0, hz1, hz2⟩ := info_parts info_u8
  have H := Lib.hid h; clear h
  have HS := Lib.hid hs; clear hs
  go_enter Tryd.func47, Tryd.ntmps47
  go_wp2_with fail
  go_loop [3, 4] (fun m i => ∃ k q : Nat, k ≤ l.length ∧ i = .int .i64 k ∧ m = .int .i64 q ∧ q ≤ 321 * k) (fun _ i => l.length - (intOf i).toNat)
  case atStart => exact ⟨0, 0, Nat.zero_le _, rfl, rfl, by omega⟩
  case round =>
    obtain ⟨k, q, hk, rfl, rfl, hq⟩ := hrel
    by_cases hlt : k < l.length
    · obtain ⟨b, off, rfl, hb, hc⟩ := H.out.map_at hlt
      have ls := HS.out _ (List.getElem_mem hlt)
      generalize l[k] = s at *
      have w1 : IntKind.i64.wrap ((s.size : Int) + 21) = ((s.size + 21 : Nat) : Int) := IntWalk.i64_in _ (by omega)
      have w2 : IntKind.i64.wrap ((q : Int) + ((s.size + 21 : Nat) : Int)) = ((q + (s.size + 21) : Nat) : Int) := IntWalk.i64_in _ (by omega)
      go_wp2_with fail
      go_round
      case rel => exact ⟨k + 1, q + (s.size + 21), hlt, by go_num, by go_num, by omega⟩
      case measure => simp [intOf]; omega
    · have hkl : k = l.length := by omega
      subst hkl
      obtain ⟨W, hmk, hown, hbel⟩ := mk_bytes q (by omega) w
      have HO : Hid (W.ownsRow w.heap.size 5 1 (.slice (some ⟨w.heap.size, 0, none⟩) 0 q) (Dg.joined (bys (l.take 0))).length (Lib.byteCells (Dg.joined (bys (l.take 0))))) := Lib.hid hown
      have HB := Lib.hid hbel; clear hown hbel
      have d1 : decide ((l.length : Int) < (l.length : Int)) = false := by simp
      obtain ⟨B, hB⟩ : ∃ B, w.heap.size = B := ⟨_, rfl⟩
      have HW : Hid (B = w.heap.size) := Lib.hid hB.symm
      rw [hB] at HO HB hmk; clear hB
      go_wp2_with fail
      clear hmk d1 hq
      go_loopw [5, 6] (fun v i wr => ∃ k : Nat, k ≤ l.length ∧ i = .int .i64 k ∧ Hid (wr.ownsRow B 5 1 v (Dg.joined (bys (l.take k))).length (Lib.byteCells (Dg.joined (bys (l.take k))))) ∧ Hid (Below B w wr)) (fun _ i _ => l.length - (intOf i).toNat)
      case atStart => exact ⟨0, Nat.zero_le _, rfl, HO, HB⟩
      case round =>
        clear HO HB
        obtain ⟨k, hk, rfl, hown, hbl⟩ := hrel
        have hsz : B ≤ wr.heap.size := by have := hbl.out.size; rw [HW.out]; exact this
        by_cases hlt : k < l.length
        · obtain ⟨b0, off, rfl, hb0, hc0⟩ := H.out.map_at hlt
          rw [← HW.out] at hb0
          have HCW : Hid (∀ u, Below B w u → u.cell? ⟨b0, off + k, none⟩ = some (.string l[k])) := Lib.hid (fun u hu => (hu.cell (p := ⟨b0, off + k, none⟩) hb0).trans hc0)
          have hc := HCW.out wr hbl.out
          clear hc0
          have JT := Lib.hid (joined_take hlt)
          have JS := joined_size HS.out k hk
          have LS := HS.out _ (List.getElem_mem hlt)
          have DL := dec_len 4 l[k].size (by omega) (by decide)
          have zd := size_mk (Dg.dec l[k].size)
          generalize l[k] = s at *
          obtain ⟨A5, c5, rfl, -, -⟩ := own_form hown.out
          go_wp2_with fail
          refine (rdecimal_any s.size wr (by omega)).mono ?_
          rintro e wr' ⟨rfl, rfl⟩
          go_wp2_with (at_builtin; refine Lib.wpList_append_own_string _ rfl _ _ 80 9 rfl B 5 i0 Tryd.underlying80 Tryd.underlying9 hi hz0 hz1 hz2 _ _ _ rfl hown.out ⟨(Dg.dec s.size).toArray⟩ rfl ?c3 ?c4 ?c5 ?_)
          case c3 => rw [zd]; unfold maxLen; omega
          case c4 => rw [zd]; omega
          case c5 => exact hsz
          intro v1 w1 hown1 hg1 _
          have bb1 : Hid (Below B wr w1) := Lib.hid (grown_below hg1 (fun k hk => (hown.out.lt k hk).1) hsz)
          have hs1 : B ≤ w1.heap.size := by have := bb1.out.size; omega
          obtain ⟨A6, c6, rfl, -, -⟩ := own_form hown1
          have HO1 := Lib.hid hown1; clear hown1 hg1
          go_wp2_with (at_builtin; refine wpList_app1 rfl (.tmp 37) (.tmp 38) 80 rfl Tryd.underlying80 info_u8 rfl (by decide) B (.slice A6 _ c6) _ _ w1 #[.int .u8 58] rfl ?c1 rfl rfl rfl HO1.out hs1 ?c2 ?c3 ?_)
          case c1 => simp [Value.oneCell']
          case c2 => omega
          case c3 => omega
          intro v2 w2 hown2 hb2
          have bb2 := Lib.hid (bb1.out.trans hb2)
          have hs2 : B ≤ w2.heap.size := by have := hb2.size; omega
          obtain ⟨A7, c7, rfl, -, -⟩ := own_form hown2
          have HO2 := Lib.hid hown2; clear hown2 hb2 HO1 bb1
          have hc2 := HCW.out w2 (hbl.out.trans bb2.out)
          clear hc
          go_wp2_with (at_builtin; refine Lib.wpList_append_own_string _ rfl _ _ 80 9 rfl B 5 i0 Tryd.underlying80 Tryd.underlying9 hi hz0 hz1 hz2 _ _ _ rfl HO2.out s rfl ?c3 ?c4 ?c5 ?_)
          case c3 => unfold maxLen; omega
          case c4 => omega
          case c5 => exact hs2
          intro v3 w3 hown3 hg3 _
          have bb3 : Hid (Below B w w3) := Lib.hid ((hbl.out.trans bb2.out).trans (grown_below hg3 (fun k hk => (HO2.out.lt k hk).1) hs2))
          have HO3 : Hid (w3.ownsRow B 5 1 v3 (Dg.joined (bys (l.take (k + 1)))).length (Lib.byteCells (Dg.joined (bys (l.take (k + 1)))))) := Lib.hid (own_cast hown3 (by rw [JT.out, List.length_append, List.length_append, List.length_cons, ← Lib.size_eq]; omega) (by rw [JT.out, byteCells_app, ← elem_cells]; simp [Lib.strCells, Lib.byteCells]))
          clear hown3 hg3 HO2
          go_wp2_with fail
          exact ⟨⟨k + 1, hlt, by go_num, HO3, bb3⟩, by simp [intOf]; omega⟩
        · have hkl : k = l.length := by omega
          subst hkl
          rw [List.take_length] at hown
          obtain ⟨A5, c5, rfl, -, -⟩ := own_form hown.out
          have hcv := conv_own hown.out rfl
          have HB2 : Hid (Below w.heap.size w wr) := Lib.hid (HW.out ▸ hbl.out)
          go_wp2_with fail
          go_ret
          exact ⟨rfl, HB2.out⟩
end Go.Proofs.YthceonkdmcidcaaDoor
