/- WALKS: the reference's Decimal, Joined, Sum, List (printed by mk_eq.py). | WALKS: the reference's names and numbers (ref08.letter, digit, word, Name, Decimal); ref11.Word, On. | WALKS: ref11.Word, On, Tags. | WALKS: ref11.refs. | WALKS: ref11.Valid, ref12.Valid. | WALKS: ref08.Decimal, ref11.Fields. | WALKS: ref11.Digest, ref12.Digests. | PLAIN: an object's fields tell it; two maps with one digest. -/
import Derived.Test.YtlejeelmlclnkaaGreatDoorQ7
import Derived.Deep.QuietTactic
import Derived.BigQuiet
import Derived.Lib.AppendStr
import Derived.Laws.IdiomStrings
import Derived.Laws.BytesArg
import Derived.Laws.MakeOwn
import Derived.Test.YtlejeelmlclnkaaGreatDoorBD
import Derived.Test.YtlejeelmlclnkaaGreatDoorBF
import Derived.Test.YtlejeelmlclnkaaGreatDoorBI
import Derived.Test.YtlejeelmlclnkaaGreatDoorCF
import Derived.Test.YtlejeelmlclnkaaGreatDoorRF
import Derived.Test.YtlejeelmlclnkaaGreatDoorCG
import Derived.Test.YtlejeelmlclnkaaGreatDoorWD
set_option linter.unusedSimpArgs false
set_option linter.unusedVariables false
namespace Go.Proofs.YtlejeelmlclnkaaGreatDoor
open Go.RowKit

theorem digit_at : ∀ d : Nat, d < 10 → (⟨#[48, 49, 50, 51, 52, 53, 54, 55, 56, 57]⟩ : ByteArray).extract d (d + 1) = ⟨#[Dg.decd d]⟩ := by
  intro d hd
  apply ByteArray.ext
  apply Array.ext'
  rw [ext_list]
  rcases d with _ | _ | _ | _ | _ | _ | _ | _ | _ | _ | d
  all_goals first | (exfalso; omega) | rfl
theorem mk_app (a b : List UInt8) : ((⟨a.toArray⟩ : ByteArray) ++ (⟨b.toArray⟩ : ByteArray)) = ⟨(a ++ b).toArray⟩ := by
  apply ByteArray.ext
  simp [ByteArray.data_append]

theorem u64w {x : Int} (h0 : 0 ≤ x) (h1 : x < 18446744073709551616) : IntKind.u64.wrap x = x := by rw [IntKind.wrap]; simp [IntKind.signed, IntKind.bits]; omega
/-- what is left to print, and what stands printed -/
def DigS (N k : Nat) (v : List UInt8) : Prop := (k = 0 ∧ v = Dg.dec N) ∨ (0 < k ∧ Dg.dec k ++ v = Dg.dec N)
theorem digS_step {N k : Nat} {v : List UInt8} (h : DigS N k v) (hk : 0 < k) : DigS N (k / 10) (Dg.decd (k % 10) :: v) := by
  rcases h with ⟨h, _⟩ | ⟨_, h⟩
  · omega
  · by_cases h10 : k < 10
    · rw [Dg.dec_one h10] at h
      exact .inl ⟨by omega, by rw [Nat.mod_eq_of_lt h10]; exact h⟩
    · rw [Dg.dec_more h10, List.append_assoc] at h
      exact .inr ⟨by omega, h⟩
theorem digS_len {N k : Nat} {v : List UInt8} (h : DigS N k v) (hN : N < 10000000000000000000) : v.length ≤ 20 := by
  have h2 := dec_len 20 N (Nat.lt_trans hN (by decide)) (by decide)
  rcases h with ⟨_, h⟩ | ⟨_, h⟩
  · rw [h]; exact h2
  · rw [← h, List.length_append] at h2; omega
set_option maxHeartbeats 1000000 in
theorem rdigits_any (N : Nat) (w : World) (hN : N < 10000000000000000000) :
    Calls Tryz.prog 102 #[.int .u64 N] w fun e w' => e = .returned (.string ⟨(Dg.dec N).toArray⟩) ∧ w = w' := by
  have DA := digit_at (N % 10) (Nat.mod_lt _ (by decide))
  have m1 : (N : Int) % 10 = ((N % 10 : Nat) : Int) := by omega
  have m3 : (N : Int) / 10 = ((N / 10 : Nat) : Int) := by omega
  have hm : N % 10 < 10 := Nat.mod_lt _ (by decide)
  have x5 : IntKind.u64.wrap ((N / 10 : Nat) : Int) = ((N / 10 : Nat) : Int) := u64w (by omega) (by omega)
  have hqN : N / 10 < 1000000000000000000 := by omega
  have IV : Hid (DigS N (N / 10) [Dg.decd (N % 10)]) := Lib.hid (by
    by_cases h : N < 10
    · exact .inl ⟨by omega, by rw [Dg.dec_one h, Nat.mod_eq_of_lt h]⟩
    · exact .inr ⟨by omega, (Dg.dec_more h).symm⟩)
  have HN := Lib.hid hN; clear hN
  generalize N % 10 = d at *
  generalize N / 10 = q at *
  have zz : (⟨#[48, 49, 50, 51, 52, 53, 54, 55, 56, 57]⟩ : ByteArray).size = 10 := rfl
  have x1 : IntKind.u64.wrap ((d : Int) + 1) = (d : Int) + 1 := u64w (by omega) (by omega)
  have x2 : ((d : Int) + 1).toNat = d + 1 := by omega
  have x3 : (d : Int) + 1 ≤ 10 := by omega
  have x4 : (d : Int) ≤ (d : Int) + 1 := by omega
  go_enter Tryz.func102, Tryz.ntmps102
  go_wp2_with fail
  go_loop [0, 3] (fun i s => ∃ (k : Nat) (v : List UInt8), i = .int .u64 k ∧ s = .string ⟨v.toArray⟩ ∧ k < 1000000000000000000 ∧ Hid (DigS N k v)) (fun i _ => (intOf i).toNat)
  case atStart => exact ⟨q, [Dg.decd d], rfl, rfl, hqN, IV⟩
  case round =>
    clear IV DA m1 m3 hm x5 hqN x1 x2 x3 x4
    obtain ⟨k, v, rfl, rfl, hk, hv⟩ := hrel
    by_cases h0 : 0 < k
    · have h0i : (0 : Int) < (k : Int) := by omega
      have DA := digit_at (k % 10) (Nat.mod_lt _ (by decide))
      have m1 : (k : Int) % 10 = ((k % 10 : Nat) : Int) := by omega
      have m3 : (k : Int) / 10 = ((k / 10 : Nat) : Int) := by omega
      have hm : k % 10 < 10 := Nat.mod_lt _ (by decide)
      have x5 : IntKind.u64.wrap ((k / 10 : Nat) : Int) = ((k / 10 : Nat) : Int) := u64w (by omega) (by omega)
      have hq2 : k / 10 < k := by omega
      have IV := Lib.hid (digS_step hv.out h0)
      have LV := digS_len hv.out HN.out
      generalize k % 10 = d at *
      generalize k / 10 = q at *
      have x1 : IntKind.u64.wrap ((d : Int) + 1) = (d : Int) + 1 := u64w (by omega) (by omega)
      have x2 : ((d : Int) + 1).toNat = d + 1 := by omega
      have x3 : (d : Int) + 1 ≤ 10 := by omega
      have x4 : (d : Int) ≤ (d : Int) + 1 := by omega
      have zv := size_mk v
      have a1 : ∀ u : World, (Op.stringOp .add ⟨#[Dg.decd d]⟩ ⟨v.toArray⟩).run Tryz.prog u = .ok (.string ⟨(Dg.decd d :: v).toArray⟩) u := fun u => by
        rw [run_string_add_sum u _ _ (by rw [zv, show (⟨#[Dg.decd d]⟩ : ByteArray).size = 1 from rfl]; omega)]
        exact congrArg (fun b => Result.ok (Value.string b) u) (mk_app [Dg.decd d] v)
      go_wp2_with fail
      go_round
      case rel => exact ⟨q, Dg.decd d :: v, rfl, rfl, by omega, IV⟩
      case measure => simp [intOf]; omega
    · have h0i : ¬ (0 : Int) < (k : Int) := by omega
      have hk0 : k = 0 := by omega
      subst hk0
      have EV : Hid (v = Dg.dec N) := Lib.hid (by rcases hv.out with ⟨_, h⟩ | ⟨h, _⟩; exact h; omega)
      go_wp2_with fail
      go_ret
      exact ⟨by rw [EV.out]; rfl, rfl⟩
theorem rdecimal_any (N : Nat) (w : World) (hN : N ≤ 9223372036854775807) :
    Calls Tryz.prog 59 #[.int .i64 N] w fun e w' => e = .returned (.string ⟨(Dg.dec N).toArray⟩) ∧ w = w' := by
  have RD := Lib.hid (fun u => rdigits_any N u (by omega))
  have x5 : IntKind.u64.wrap (N : Int) = (N : Int) := u64w (by omega) (by omega)
  go_enter Tryz.func59, Tryz.ntmps59
  go_wp2_with fail
  refine (RD.out _).mono ?_
  rintro e w1 ⟨rfl, rfl⟩
  go_wp2_with fail
  go_ret
  exact ⟨rfl, rfl⟩

theorem info_u8 : (Tryz.prog.info? 5).map (fun i => (i.zero, i.size, i.bytes)) = some (some (.int .u8 0), 1, 1) := by kernel_rfl
theorem mk_bytes (n : Nat) (h : n ≤ 140737488355328) (w : World) : ∃ W, (Instr.makeSlice 85 (.int .i64 0) (.int .i64 (n : Int))).run Tryz.prog w = .ok (.slice (some ⟨w.heap.size, 0, none⟩) 0 n) W ∧
    W.ownsRow w.heap.size 5 1 (.slice (some ⟨w.heap.size, 0, none⟩) 0 n) 0 [] ∧ Below w.heap.size w W := by
  obtain ⟨i, hi, hz, hs, hb⟩ := info_parts info_u8
  obtain ⟨W, h1, h2, h3⟩ := run_make_own (P := Tryz.prog) w w.heap.size 85 5 i (.int .u8 0) 1 Tryz.underlying85 hi hz hs .i64 .i64 n (by rw [hb]; omega) (by unfold maxLen; omega) (Nat.le_refl _)
  exact ⟨W, h1, h2, h3.os, h3.tape, h3.output, h3.size, fun k hk => h3.block k hk (by simp)⟩
theorem elem_cells (d s : List UInt8) : Lib.byteCells d ++ [Value.int .u8 58] ++ Lib.byteCells s = Lib.byteCells (d ++ 58 :: s) := by
  simp [Lib.byteCells]
theorem conv_own {w : World} {B : Nat} {A : Option Addr} {n c : Nat} {l : List UInt8} (h : w.ownsRow B 5 1 (.slice A n c) n (Lib.byteCells l)) (hn : n = l.length) :
    (convert 85 9 (.slice A n c)).run Tryz.prog w = .ok (.string ⟨l.toArray⟩) w := by
  subst hn
  have hr := Rd.of_own h
  cases A with
  | none =>
    have h0 : l = [] := by
      rcases Nat.eq_zero_or_pos l.length with h0 | h0
      · exact List.eq_nil_of_length_eq_zero h0
      · obtain ⟨b, off, e, _⟩ := hr (by simpa [Lib.byteCells] using h0); cases e
    subst h0
    exact run_convert_bytes_nil w 85 5 Tryz.underlying85 Tryz.underlying5 0 c 9 Tryz.underlying9
  | some a =>
    refine run_convert_bytes_back (P := Tryz.prog) w 85 9 5 a c l Tryz.underlying85 Tryz.underlying5 Tryz.underlying9 (fun j hj => ?_)
    obtain ⟨b, off, e, _, hc⟩ := hr (by simp [Lib.byteCells]; omega)
    cases e
    rw [Addr.add_lit]
    exact hc j _ (by simp [Lib.byteCells, hj])
theorem own_castQ {w : World} {base : Nat} {e : TypeId} {size n n' : Nat} {v : Value} {xs xs' : List Value} (h : w.ownsRow base e size v n xs) (hn : n = n') (hx : xs = xs') : w.ownsRow base e size v n' xs' := by subst hn hx; exact h
set_option maxHeartbeats 2000000 in
set_option maxRecDepth 100000 in
theorem joined_any (A : Option Addr) (n c : Nat) (l : List ByteArray) (w : World) (hn : n = l.length) (hlen : l.length ≤ 300) (hs : ∀ s ∈ l, s.size ≤ 300) (h : Rd w A (l.map Value.string)) :
    Calls Tryz.prog 22 #[.slice A n c] w fun e w' => e = .returned (.string ⟨(Dg.joined (bys l)).toArray⟩) ∧ Below w.heap.size w w' := by
  subst hn
  obtain ⟨i0, hi, hz0, hz1, hz2⟩ := info_parts info_u8
  have H := Lib.hid h; clear h
  have HS := Lib.hid hs; clear hs
  go_enter Tryz.func22, Tryz.ntmps22
  go_wp2_with fail
  go_loop [3, 4] (fun m i => ∃ k q : Nat, k ≤ l.length ∧ i = .int .i64 k ∧ m = .int .i64 q ∧ q ≤ 321 * k) (fun _ i => l.length - (intOf i).toNat)
  case atStart => exact ⟨0, 0, Nat.zero_le _, rfl, rfl, by omega⟩
  case round =>
    obtain ⟨k, q, hk, rfl, rfl, hq⟩ := hrel
    by_cases hlt : k < l.length
    · obtain ⟨b, off, rfl, hb, hc⟩ := H.out.map_at hlt
      have ls := HS.out _ (List.getElem_mem hlt)
      generalize l[k] = s at *
      have w1 : IntKind.i64.wrap ((s.size : Int) + 21) = ((s.size + 21 : Nat) : Int) := IntWalk.i64_in _ (by omega)
      have w2 : IntKind.i64.wrap ((q : Int) + ((s.size + 21 : Nat) : Int)) = ((q + (s.size + 21) : Nat) : Int) := IntWalk.i64_in _ (by omega)
      go_wp2_with fail
      go_round
      case rel => exact ⟨k + 1, q + (s.size + 21), hlt, by go_num, by go_num, by omega⟩
      case measure => simp [intOf]; omega
    · have hkl : k = l.length := by omega
      subst hkl
      obtain ⟨W, hmk, hown, hbel⟩ := mk_bytes q (by omega) w
      have HO : Hid (W.ownsRow w.heap.size 5 1 (.slice (some ⟨w.heap.size, 0, none⟩) 0 q) (Dg.joined (bys (l.take 0))).length (Lib.byteCells (Dg.joined (bys (l.take 0))))) := Lib.hid hown
      have HB := Lib.hid hbel; clear hown hbel
      have d1 : decide ((l.length : Int) < (l.length : Int)) = false := by simp
      obtain ⟨B, hB⟩ : ∃ B, w.heap.size = B := ⟨_, rfl⟩
      have HW : Hid (B = w.heap.size) := Lib.hid hB.symm
      rw [hB] at HO HB hmk; clear hB
      go_wp2_with fail
      clear hmk d1 hq
      go_loopw [5, 6] (fun v i wr => ∃ k : Nat, k ≤ l.length ∧ i = .int .i64 k ∧ Hid (wr.ownsRow B 5 1 v (Dg.joined (bys (l.take k))).length (Lib.byteCells (Dg.joined (bys (l.take k))))) ∧ Hid (Below B w wr)) (fun _ i _ => l.length - (intOf i).toNat)
      case atStart => exact ⟨0, Nat.zero_le _, rfl, HO, HB⟩
      case round =>
        clear HO HB
        obtain ⟨k, hk, rfl, hown, hbl⟩ := hrel
        have hsz : B ≤ wr.heap.size := by have := hbl.out.size; rw [HW.out]; exact this
        by_cases hlt : k < l.length
        · obtain ⟨b0, off, rfl, hb0, hc0⟩ := H.out.map_at hlt
          rw [← HW.out] at hb0
          have HCW : Hid (∀ u, Below B w u → u.cell? ⟨b0, off + k, none⟩ = some (.string l[k])) := Lib.hid (fun u hu => (hu.cell (p := ⟨b0, off + k, none⟩) hb0).trans hc0)
          have hc := HCW.out wr hbl.out
          clear hc0
          have JT := Lib.hid (joined_take hlt)
          have JS := joined_size HS.out k hk
          have LS := HS.out _ (List.getElem_mem hlt)
          have DL := dec_len 4 l[k].size (by omega) (by decide)
          have zd := size_mk (Dg.dec l[k].size)
          generalize l[k] = s at *
          obtain ⟨A5, c5, rfl, -, -⟩ := own_form hown.out
          go_wp2_with fail
          refine (rdecimal_any s.size wr (by omega)).mono ?_
          rintro e wr' ⟨rfl, rfl⟩
          go_wp2_with (at_builtin; refine Lib.wpList_append_own_string _ rfl _ _ 85 9 rfl B 5 i0 Tryz.underlying85 Tryz.underlying9 hi hz0 hz1 hz2 _ _ _ rfl hown.out ⟨(Dg.dec s.size).toArray⟩ rfl ?c3 ?c4 ?c5 ?_)
          case c3 => rw [zd]; unfold maxLen; omega
          case c4 => rw [zd]; omega
          case c5 => exact hsz
          intro v1 w1 hown1 hg1 _
          have bb1 : Hid (Below B wr w1) := Lib.hid (grown_below hg1 (fun k hk => (hown.out.lt k hk).1) hsz)
          have hs1 : B ≤ w1.heap.size := by have := bb1.out.size; omega
          obtain ⟨A6, c6, rfl, -, -⟩ := own_form hown1
          have HO1 := Lib.hid hown1; clear hown1 hg1
          go_wp2_with (at_builtin; refine wpList_app1 rfl (.tmp 37) (.tmp 38) 85 rfl Tryz.underlying85 info_u8 rfl (by decide) B (.slice A6 _ c6) _ _ w1 #[.int .u8 58] rfl ?c1 rfl rfl rfl HO1.out hs1 ?c2 ?c3 ?_)
          case c1 => simp [Value.oneCell']
          case c2 => omega
          case c3 => omega
          intro v2 w2 hown2 hb2
          have bb2 := Lib.hid (bb1.out.trans hb2)
          have hs2 : B ≤ w2.heap.size := by have := hb2.size; omega
          obtain ⟨A7, c7, rfl, -, -⟩ := own_form hown2
          have HO2 := Lib.hid hown2; clear hown2 hb2 HO1 bb1
          have hc2 := HCW.out w2 (hbl.out.trans bb2.out)
          clear hc
          go_wp2_with (at_builtin; refine Lib.wpList_append_own_string _ rfl _ _ 85 9 rfl B 5 i0 Tryz.underlying85 Tryz.underlying9 hi hz0 hz1 hz2 _ _ _ rfl HO2.out s rfl ?c3 ?c4 ?c5 ?_)
          case c3 => unfold maxLen; omega
          case c4 => omega
          case c5 => exact hs2
          intro v3 w3 hown3 hg3 _
          have bb3 : Hid (Below B w w3) := Lib.hid ((hbl.out.trans bb2.out).trans (grown_below hg3 (fun k hk => (HO2.out.lt k hk).1) hs2))
          have HO3 : Hid (w3.ownsRow B 5 1 v3 (Dg.joined (bys (l.take (k + 1)))).length (Lib.byteCells (Dg.joined (bys (l.take (k + 1)))))) := Lib.hid (own_castQ hown3 (by rw [JT.out, List.length_append, List.length_append, List.length_cons, ← Lib.size_eq]; omega) (by rw [JT.out, byteCells_app, ← elem_cells]; simp [Lib.strCells, Lib.byteCells]))
          clear hown3 hg3 HO2
          go_wp2_with fail
          exact ⟨⟨k + 1, hlt, by go_num, HO3, bb3⟩, by simp [intOf]; omega⟩
        · have hkl : k = l.length := by omega
          subst hkl
          rw [List.take_length] at hown
          obtain ⟨A5, c5, rfl, -, -⟩ := own_form hown.out
          have hcv := conv_own hown.out rfl
          have HB2 : Hid (Below w.heap.size w wr) := Lib.hid (HW.out ▸ hbl.out)
          go_wp2_with fail
          go_ret
          exact ⟨rfl, HB2.out⟩

theorem mulw (c x : Nat) : IntKind.u64.wrap ((x : Int) * (c : Int)) = ((Dg.mulM c x : Nat) : Int) := by
  rw [IntKind.wrap_u64]; unfold Dg.mulM Dg.M; rw [← Int.natCast_mul]; omega
theorem rmix_any (x : Nat) (w : World) : Calls Tryz.prog 126 #[.int .u64 (x : Int)] w fun e w' => e = .returned (.int .u64 ((Dg.mix x : Nat) : Int)) ∧ w = w' := by
  have e1 := xsh32 (Dg.mulM Dg.C1 x) (Dg.mulM_lt _ _)
  have e2 := xsh29 (Dg.mulM Dg.C2 (Dg.xsh 32 (Dg.mulM Dg.C1 x))) (Dg.mulM_lt _ _)
  have EM : Hid (Dg.mix x = Dg.xsh 29 (Dg.mulM Dg.C2 (Dg.xsh 32 (Dg.mulM Dg.C1 x)))) := Lib.hid rfl
  have m1 : IntKind.u64.wrap ((x : Int) * 2862933555777941757) = ((Dg.mulM Dg.C1 x : Nat) : Int) := mulw Dg.C1 x
  have m2 : IntKind.u64.wrap (((Dg.xsh 32 (Dg.mulM Dg.C1 x) : Nat) : Int) * 3935559000370003845) = ((Dg.mulM Dg.C2 (Dg.xsh 32 (Dg.mulM Dg.C1 x)) : Nat) : Int) := mulw Dg.C2 _
  generalize Dg.mulM Dg.C2 (Dg.xsh 32 (Dg.mulM Dg.C1 x)) = q2 at *
  generalize Dg.mulM Dg.C1 x = q1 at *
  generalize Dg.xsh 32 q1 = q3 at *
  generalize Dg.xsh 29 q2 = q4 at *
  go_enter Tryz.func126, Tryz.ntmps126
  go_wp2_with fail
  go_ret
  exact ⟨by rw [EM.out]; rfl, rfl⟩
theorem padAt {s : ByteArray} {f k : Nat} (hk : k < 8) (h : f + k < s.size) : ∃ h2 : k < (pad8 ((s.data.toList.drop f).take 8)).length, (pad8 ((s.data.toList.drop f).take 8))[k] = s[f + k] := by
  have hl : s.data.toList.length = s.size := (Lib.size_eq s).symm
  have h1 : k < ((s.data.toList.drop f).take 8).length := by rw [List.length_take, List.length_drop]; omega
  refine ⟨by unfold pad8; rw [List.length_append]; omega, ?_⟩
  unfold pad8
  rw [List.getElem_append_left h1, List.getElem_take, List.getElem_drop]
  rfl
theorem padZ {s : ByteArray} {f k : Nat} (hk : k < 8) (h : ¬ f + k < s.size) : ∃ h2 : k < (pad8 ((s.data.toList.drop f).take 8)).length, (pad8 ((s.data.toList.drop f).take 8))[k] = 0 := by
  have hl : s.data.toList.length = s.size := (Lib.size_eq s).symm
  have h1 : ((s.data.toList.drop f).take 8).length ≤ k := by rw [List.length_take, List.length_drop]; omega
  have h3 : k < (pad8 ((s.data.toList.drop f).take 8)).length := by rw [pad8_len (by rw [List.length_take]; omega)]; exact hk
  refine ⟨h3, ?_⟩
  unfold pad8 at *
  rw [List.getElem_append_right h1, List.getElem_replicate]
theorem hexd_at : ∀ d : Nat, d < 16 → (⟨#[48, 49, 50, 51, 52, 53, 54, 55, 56, 57, 97, 98, 99, 100, 101, 102]⟩ : ByteArray).extract d (d + 1) = ⟨#[Dg.hexd d]⟩ := by
  intro d hd
  apply ByteArray.ext
  apply Array.ext'
  rw [ext_list]
  rcases lt16 hd with rfl | rfl | rfl | rfl | rfl | rfl | rfl | rfl | rfl | rfl | rfl | rfl | rfl | rfl | rfl | rfl <;> rfl
/-- the state ahead of a place, and behind the last block -/
def RunS (s : ByteArray) (f st : Nat) : Prop := st < Dg.M ∧ ((f ≤ s.size ∧ Dg.run st (s.data.toList.drop f) = Dg.sumN s.data.toList) ∨ (s.size < f ∧ st = Dg.sumN s.data.toList))
theorem runS_step {s : ByteArray} {f st : Nat} (h : RunS s f st) (hf : f ≤ s.size) : RunS s (f + 8) (Dg.step st ((s.data.toList.drop f).take 8)) := by
  have hl : s.data.toList.length = s.size := (Lib.size_eq s).symm
  refine ⟨Dg.step_lt _ _, ?_⟩
  rcases h.2 with ⟨_, hr⟩ | ⟨h, _⟩
  · by_cases h8 : f + 8 ≤ s.size
    · rw [Dg.run_more (by rw [List.length_drop]; omega), List.drop_drop] at hr
      exact .inl ⟨h8, hr⟩
    · rw [Dg.run_last (by rw [List.length_drop]; omega)] at hr
      rw [List.take_of_length_le (by rw [List.length_drop]; omega)]
      exact .inr ⟨by omega, hr⟩
  · omega
set_option maxHeartbeats 2000000 in
set_option maxRecDepth 100000 in
theorem rsum_any (s : ByteArray) (w : World) (hs : s.size ≤ 1000000) :
    Calls Tryz.prog 112 #[.string s] w fun e w' => e = .returned (.string ⟨(Dg.sumL s.data.toList).toArray⟩) ∧ w = w' := by
  have hsM : s.size < Dg.M := Nat.lt_of_le_of_lt hs (by decide)
  have ei : bits .xor .u64 1181783497276652981 (s.size : Int) = ((Dg.init s.size : Nat) : Int) := xor_step 1181783497276652981 s.size (by decide) hsM
  have ew : IntKind.u64.wrap (s.size : Int) = (s.size : Int) := u64w (by omega) (by omega)
  have RS : Hid (RunS s 0 (Dg.init s.size)) := Lib.hid ⟨Dg.init_lt hsM, .inl ⟨Nat.zero_le _, by rw [List.drop_zero]; unfold Dg.sumN; rw [← Lib.size_eq]⟩⟩
  clear hsM
  go_enter Tryz.func112, Tryz.ntmps112
  go_wp2_with fail
  go_loop [3, 4] (fun st i => ∃ f t : Nat, i = .int .i64 f ∧ st = .int .u64 t ∧ f ≤ 1000008 ∧ Hid (RunS s f t)) (fun _ i => 1000100 - (intOf i).toNat)
  case atStart => exact ⟨0, Dg.init s.size, rfl, rfl, by omega, RS⟩
  case round =>
    clear RS ei
    obtain ⟨f, st, rfl, rfl, hf, hr⟩ := hrel
    by_cases hlt : f ≤ s.size
    · have hlti : (f : Int) ≤ (s.size : Int) := by omega
      have d1 : ¬ (s.size : Int) < (f : Int) := by omega
      have e8 : IntKind.i64.wrap ((f : Int) + 8) = (f : Int) + 8 := IntWalk.i64_in _ (by omega)
      have PA : ∀ k, k < 8 → f + k < s.size → ∃ h2 : k < (pad8 ((s.data.toList.drop f).take 8)).length, (pad8 ((s.data.toList.drop f).take 8))[k] = s[f + k]! := fun k hk h => by
        obtain ⟨h2, e⟩ := padAt hk h
        exact ⟨h2, by rw [e, getElem!_pos s (f + k) h]⟩
      have PZ : ∀ k, k < 8 → ¬ f + k < s.size → ∃ h2 : k < (pad8 ((s.data.toList.drop f).take 8)).length, (pad8 ((s.data.toList.drop f).take 8))[k] = 0 := fun k hk h => padZ hk h
      have HPA := Lib.hid PA; have HPZ := Lib.hid PZ; clear PA PZ
      have PL : Hid ((pad8 ((s.data.toList.drop f).take 8)).length = 8) := Lib.hid (pad8_len (by rw [List.length_take]; omega))
      have PB : Hid (Dg.be (pad8 ((s.data.toList.drop f).take 8)) = Dg.blk ((s.data.toList.drop f).take 8)) := Lib.hid be_pad
      have BL : Hid (Dg.blk ((s.data.toList.drop f).take 8) < Dg.M) := Lib.hid (Dg.blk_lt (by rw [List.length_take]; omega))
      have RN := Lib.hid (runS_step hr.out hlt)
      have ES : Hid (Dg.step st ((s.data.toList.drop f).take 8) = Dg.mix (st ^^^ Dg.blk ((s.data.toList.drop f).take 8))) := Lib.hid rfl
      generalize pad8 ((s.data.toList.drop f).take 8) = pad at *
      generalize Dg.blk ((s.data.toList.drop f).take 8) = bk at *
      generalize Dg.step st ((s.data.toList.drop f).take 8) = st2 at *
      go_wp2_with fail
      go_loop [5, 6] (fun b i => ∃ g : Nat, i = .int .i64 g ∧ b = .int .u64 ((Dg.be (pad.take (g - f)) : Nat) : Int) ∧ f ≤ g ∧ g ≤ f + 8) (fun _ i => f + 8 - (intOf i).toNat)
      case atStart => exact ⟨f, rfl, by rw [Nat.sub_self]; rfl, Nat.le_refl _, by omega⟩
      case round =>
        obtain ⟨g, rfl, rfl, hg1, hg2⟩ := hrel
        by_cases hg : g < f + 8
        · have hgi : (g : Int) < (f : Int) + 8 := by omega
          have egf : f + (g - f) = g := by omega
          have eg1 : g + 1 - f = g - f + 1 := by omega
          have hn := be_bound (l := pad) (k := g - f) (by omega)
          have g8 : IntKind.i64.wrap ((g : Int) + 1) = (g : Int) + 1 := IntWalk.i64_in _ (by omega)
          by_cases hgs : g < s.size
          · have hgsi : (g : Int) < (s.size : Int) := by omega
            obtain ⟨h2, e⟩ := HPA.out (g - f) (by omega) (by omega)
            have ET := Lib.hid (be_take h2)
            rw [e] at ET
            simp only [egf] at ET
            have hb := (s[g]!).toNat_lt
            have eb : s[g]! = s[g] := getElem!_pos s g hgs
            rw [eb] at ET hb
            generalize Dg.be (pad.take (g - f)) = n at *
            have w1 : IntKind.u64.wrap ((n : Int) * 256) = (n : Int) * 256 := by rw [IntKind.wrap_u64]; omega
            have w2 : IntKind.u64.wrap ((n : Int) * 256 + ((s[g].toNat : Nat) : Int)) = (n : Int) * 256 + ((s[g].toNat : Nat) : Int) := by rw [IntKind.wrap_u64]; omega
            have w3 : IntKind.u64.wrap ((s[g].toNat : Nat) : Int) = ((s[g].toNat : Nat) : Int) := by rw [IntKind.wrap_u64]; omega
            clear e eb
            go_wp2_with fail
            go_round
            case rel => exact ⟨g + 1, by go_num, by rw [eg1, ET.out]; go_num, by omega, by omega⟩
            case measure => simp [intOf]; omega
          · have hgsi : ¬ (g : Int) < (s.size : Int) := by omega
            obtain ⟨h2, e⟩ := HPZ.out (g - f) (by omega) (by omega)
            have ET := Lib.hid (be_take h2)
            rw [e, show (0 : UInt8).toNat = 0 from rfl, Nat.add_zero] at ET
            generalize Dg.be (pad.take (g - f)) = n at *
            have w1 : IntKind.u64.wrap ((n : Int) * 256) = (n : Int) * 256 := by rw [IntKind.wrap_u64]; omega
            clear e
            go_wp2_with fail
            go_round
            case rel => exact ⟨g + 1, by go_num, by rw [eg1, ET.out]; go_num, by omega, by omega⟩
            case measure => simp [intOf]; omega
        · have hgi : ¬ (g : Int) < (f : Int) + 8 := by omega
          have hgf : g - f = 8 := by omega
          have e8b : Hid (Dg.be (pad.take (g - f)) = bk) := Lib.hid (by rw [hgf, List.take_of_length_le (by rw [PL.out]; omega), PB.out])
          rw [e8b.out]
          have ex : bits .xor .u64 (st : Int) (bk : Int) = ((st ^^^ bk : Nat) : Int) := xor_step st bk hr.out.1 BL.out
          have MX := Lib.hid (fun u => rmix_any (st ^^^ bk) u)
          rw [← ES.out] at MX
          go_wp2_with fail
          refine (MX.out _).mono ?_
          rintro e w' ⟨rfl, rfl⟩
          go_wp2_with fail
          go_round
          case rel => exact ⟨f + 8, st2, by go_num, rfl, by omega, RN⟩
          case measure => simp [intOf]; omega
    · have hlti : ¬ (f : Int) ≤ (s.size : Int) := by omega
      have EQ : Hid (st = Dg.sumN s.data.toList) := Lib.hid (by rcases hr.out.2 with ⟨h, _⟩ | ⟨_, h⟩; omega; exact h)
      have SM := Lib.hid (Dg.sumN_lt s.data.toList)
      have EL : Hid (Dg.sumL s.data.toList = Dg.hex 16 (Dg.sumN s.data.toList)) := Lib.hid rfl
      clear hr
      generalize Dg.sumN s.data.toList = S at *
      obtain ⟨L, hL⟩ : ∃ L, Dg.sumL s.data.toList = L := ⟨_, rfl⟩
      have HL := Lib.hid hL; rw [hL] at EL; clear hL
      have EQ' := EQ.out
      subst EQ'
      clear EQ
      go_wp2_with fail
      go_loop [3, 7, 8] (fun t v i => ∃ (k n : Nat) (u : List UInt8), i = .int .i64 k ∧ t = .int .u64 n ∧ v = .string ⟨u.toArray⟩ ∧ k ≤ 16 ∧ n < 18446744073709551616 ∧ Hid (u.length = k ∧ Dg.hex (16 - k) n ++ u = Dg.hex 16 st)) (fun _ _ i => 16 - (intOf i).toNat)
      case atStart => exact ⟨0, st, [], rfl, rfl, rfl, by omega, SM.out, Lib.hid ⟨rfl, by simp⟩⟩
      case round =>
        obtain ⟨k, n, u, rfl, rfl, rfl, hk, hn, hu⟩ := hrel
        by_cases h16 : k < 16
        · have h16i : (k : Int) < 16 := by omega
          have DA := hexd_at (n % 16) (Nat.mod_lt _ (by decide))
          have m1 : (n : Int) % 16 = ((n % 16 : Nat) : Int) := by omega
          have m3 : (n : Int) / 16 = ((n / 16 : Nat) : Int) := by omega
          have x5 : IntKind.u64.wrap ((n / 16 : Nat) : Int) = ((n / 16 : Nat) : Int) := u64w (by omega) (by omega)
          have hq : n / 16 < 18446744073709551616 := by omega
          have hd : n % 16 < 16 := Nat.mod_lt _ (by decide)
          have IV : Hid ((Dg.hexd (n % 16) :: u).length = k + 1 ∧ Dg.hex (16 - (k + 1)) (n / 16) ++ Dg.hexd (n % 16) :: u = Dg.hex 16 st) := Lib.hid ⟨by rw [List.length_cons, hu.out.1], by
            have h := hu.out.2
            rw [show 16 - k = (16 - (k + 1)) + 1 by omega, Dg.hex, List.append_assoc] at h
            exact h⟩
          have lu := hu.out.1
          generalize n % 16 = d at *
          generalize n / 16 = q at *
          have zz : (⟨#[48, 49, 50, 51, 52, 53, 54, 55, 56, 57, 97, 98, 99, 100, 101, 102]⟩ : ByteArray).size = 16 := rfl
          have x1 : IntKind.u64.wrap ((d : Int) + 1) = (d : Int) + 1 := u64w (by omega) (by omega)
          have x2 : ((d : Int) + 1).toNat = d + 1 := by omega
          have x3 : (d : Int) + 1 ≤ 16 := by omega
          have x4 : (d : Int) ≤ (d : Int) + 1 := by omega
          have zv := size_mk u
          have a1 : ∀ W : World, (Op.stringOp .add ⟨#[Dg.hexd d]⟩ ⟨u.toArray⟩).run Tryz.prog W = .ok (.string ⟨(Dg.hexd d :: u).toArray⟩) W := fun W => by
            rw [run_string_add_sum W _ _ (by rw [zv, show (⟨#[Dg.hexd d]⟩ : ByteArray).size = 1 from rfl]; omega)]
            exact congrArg (fun b => Result.ok (Value.string b) W) (mk_app [Dg.hexd d] u)
          clear hu
          go_wp2_with fail
          go_round
          case rel => exact ⟨k + 1, q, Dg.hexd d :: u, by go_num, rfl, rfl, by omega, hq, IV⟩
          case measure => simp [intOf]; omega
        · have h16i : ¬ (k : Int) < 16 := by omega
          have hk16 : k = 16 := by omega
          subst hk16
          have EU : Hid (u = L) := Lib.hid (by rw [EL.out]; exact hu.out.2)
          clear hu
          go_wp2_with fail
          go_ret
          exact ⟨by rw [HL.out, EU.out]; rfl, rfl⟩
set_option maxHeartbeats 400000 in
theorem rlist_any (A : Option Addr) (n c : Nat) (l : List ByteArray) (w : World) (hn : n = l.length) (hlen : l.length ≤ 300) (hs : ∀ s ∈ l, s.size ≤ 300) (h : Rd w A (l.map Value.string)) :
    Calls Tryz.prog 76 #[.slice A n c] w fun e w' => e = .returned (.string ⟨(Dg.sumL (Dg.joined (bys l))).toArray⟩) ∧ Below w.heap.size w w' := by
  subst hn
  have JA := Lib.hid (joined_any A _ c l w rfl hlen hs h)
  have JS := joined_size hs l.length (Nat.le_refl _)
  rw [List.take_length] at JS
  have z2 : (Dg.joined (bys l)).length ≤ 1000000 := by omega
  have z3 : (⟨(Dg.joined (bys l)).toArray⟩ : ByteArray).size ≤ 1000000 := Nat.le_trans (Nat.le_of_eq (size_mk _)) z2
  have RSM : Hid (∀ u, Calls Tryz.prog 112 #[.string ⟨(Dg.joined (bys l)).toArray⟩] u fun e w' => e = .returned (.string ⟨(Dg.sumL (Dg.joined (bys l))).toArray⟩) ∧ u = w') := Lib.hid (fun u => rsum_any ⟨(Dg.joined (bys l)).toArray⟩ u z3)
  clear h hs JS z2 z3
  generalize Dg.joined (bys l) = J at *
  generalize Dg.sumL J = D at *
  go_enter Tryz.func76, Tryz.ntmps76
  go_wp2_with fail
  refine JA.out.mono ?_
  rintro e w1 ⟨rfl, hb1⟩
  have B1 := Lib.hid hb1; clear hb1
  go_wp2_with fail
  refine (RSM.out _).mono ?_
  rintro e w2 ⟨rfl, rfl⟩
  go_wp2_with fail
  go_ret
  exact ⟨rfl, B1.out⟩
end Go.Proofs.YtlejeelmlclnkaaGreatDoor
namespace Go.Proofs.YtlejeelmlclnkaaGreatDoor
open Go.RowKit

theorem let_all : ∀ n : Fin 256, At.letterB n.val.toUInt8 = ((decide ((97 : Int) ≤ (n.val : Int)) && decide ((n.val : Int) ≤ 122)) || (decide ((65 : Int) ≤ (n.val : Int)) && decide ((n.val : Int) ≤ 90))) := by decide +kernel
theorem let_int (c : UInt8) : At.letterB c = ((decide ((97 : Int) ≤ (c.toNat : Int)) && decide ((c.toNat : Int) ≤ 122)) || (decide ((65 : Int) ≤ (c.toNat : Int)) && decide ((c.toNat : Int) ≤ 90))) := by
  have := let_all ⟨c.toNat, c.toNat_lt⟩
  simpa using this
theorem tail_all : ∀ n : Fin 256, At.tailB n.val.toUInt8 = (At.letterB n.val.toUInt8 || (decide ((48 : Int) ≤ (n.val : Int)) && decide ((n.val : Int) ≤ 57)) || ((n.val : Int) == 95)) := by decide +kernel
theorem tail_int (c : UInt8) : At.tailB c = (At.letterB c || (decide ((48 : Int) ≤ (c.toNat : Int)) && decide ((c.toNat : Int) ≤ 57)) || ((c.toNat : Int) == 95)) := by
  have := tail_all ⟨c.toNat, c.toNat_lt⟩
  simpa using this
set_option maxHeartbeats 2000000 in
theorem rletter_any (c : UInt8) (w : World) : Calls Tryz.prog 125 #[.int .u8 (c.toNat : Int)] w fun e w' => e = .returned (.bool (At.letterB c)) ∧ w' = w := by
  have LB := Lib.hid (let_int c)
  generalize At.letterB c = R at *
  generalize (c.toNat : Int) = x at *
  cases h1 : decide ((97 : Int) ≤ x) <;> cases h2 : decide (x ≤ 122) <;> cases h3 : decide ((65 : Int) ≤ x) <;> cases h4 : decide (x ≤ 90)
  all_goals
    rw [h1, h2, h3, h4] at LB
    go_enter Tryz.func125, Tryz.ntmps125
    go_wp2_with fail
    go_ret
    exact ⟨by rw [LB.out]; rfl, rfl⟩
set_option maxHeartbeats 2000000 in
theorem rdigit_any (c : UInt8) (w : World) : Calls Tryz.prog 135 #[.int .u8 (c.toNat : Int)] w fun e w' => e = .returned (.bool (decide ((48 : Int) ≤ (c.toNat : Int)) && decide ((c.toNat : Int) ≤ 57))) ∧ w' = w := by
  generalize (c.toNat : Int) = x at *
  cases h1 : decide ((48 : Int) ≤ x) <;> cases h2 : decide (x ≤ 57)
  all_goals
    go_enter Tryz.func135, Tryz.ntmps135
    go_wp2_with fail
    go_ret
    exact ⟨rfl, rfl⟩
set_option maxHeartbeats 2000000 in
theorem rword_any (c : UInt8) (w : World) : Calls Tryz.prog 124 #[.int .u8 (c.toNat : Int)] w fun e w' => e = .returned (.bool (At.tailB c)) ∧ w' = w := by
  have LB := Lib.hid (tail_int c)
  have L := Lib.hid (fun u => rletter_any c u)
  have D := Lib.hid (fun u => rdigit_any c u)
  generalize At.tailB c = R at *
  generalize At.letterB c = a at *
  generalize (decide ((48 : Int) ≤ (c.toNat : Int)) && decide ((c.toNat : Int) ≤ 57)) = b at *
  generalize (c.toNat : Int) = x at *
  cases h3 : (x == 95) <;> cases a <;> cases b
  all_goals
    rw [h3] at LB
    go_enter Tryz.func124, Tryz.ntmps124
    go_wp2_with fail
    refine (L.out _).mono ?_
    rintro e u1 ⟨rfl, rfl⟩
    go_wp2_with fail
    first
    | (go_ret; exact ⟨by rw [LB.out]; rfl, rfl⟩)
    | (refine (D.out _).mono ?_
       rintro e u1 ⟨rfl, rfl⟩
       go_wp2_with fail
       go_ret
       exact ⟨by rw [LB.out]; rfl, rfl⟩)
theorem rname_bad {s : Tx} {i : Nat} (h : i < s.length) (hc : At.tailB s[i] = false) : At.nameB s = false := by
  refine name_false h ?_
  unfold okC
  split
  · cases hl : At.letterB s[i]
    · rfl
    · unfold At.tailB at hc; rw [hl] at hc; cases hc
  · exact hc
theorem rname_good {s : Tx} (h : ∀ i (h : i < s.length), At.tailB s[i] = true) (h0 : 0 < s.length) : At.nameB s = (decide ((s.length : Int) ≤ 24) && At.letterB s[0]) := by
  cases s with
  | nil => exact absurd h0 (Nat.lt_irrefl _)
  | cons c r =>
    unfold At.nameB
    have hr : r.all At.tailB = true := by
      rw [List.all_eq_true]
      intro x hx
      obtain ⟨i, hi, rfl⟩ := List.mem_iff_getElem.1 hx
      have := h (i + 1) (by simpa using hi)
      simpa using this
    show (At.letterB c && r.all At.tailB && decide (r.length + 1 ≤ 24)) = _
    rw [hr, Bool.and_true, Bool.and_comm]
    congr 1
    simp only [List.length_cons, decide_eq_decide]
    omega
set_option maxHeartbeats 4000000 in
set_option maxRecDepth 100000 in
theorem rname_any (s : Tx) (w : World) (hs : s.length ≤ 9223372036854775807) :
    Calls Tryz.prog 107 #[.string (mkB s)] w fun e w' => e = .returned (.bool (At.nameB s)) ∧ w' = w := by
  have ms := mkB_len s
  obtain ⟨n, hn⟩ : ∃ n, s.length = n := ⟨_, rfl⟩
  have HN := Lib.hid hn
  rw [hn] at hs ms
  clear hn
  go_enter Tryz.func107, Tryz.ntmps107
  go_wp2_with fail
  go_loop [3] (fun i => ∃ k : Nat, k ≤ n ∧ i = .int .i64 (k : Int) ∧ Hid (∀ i (h : i < s.length), i < k → At.tailB s[i] = true)) (fun i => n - (intOf i).toNat)
  case atStart => exact ⟨0, Nat.zero_le _, rfl, Lib.hid (fun i _ h => absurd h (Nat.not_lt_zero _))⟩
  case round =>
    obtain ⟨k, hk, rfl, AL⟩ := hrel
    by_cases hlt : k < n
    · have hkl : k < s.length := by have := HN.out; omega
      have d1 : (k : Int) < (n : Int) := by omega
      have d2 : (0 : Int) ≤ (k : Int) := by omega
      have k8 : IntKind.i64.wrap ((k : Int) + 1) = (k : Int) + 1 := IntWalk.i64_in _ (by omega)
      have tg := tl_get s hkl
      have WD := Lib.hid (fun u => rword_any s[k] u)
      have ALn : Hid (At.tailB s[k] = true → ∀ i (h : i < s.length), i < k + 1 → At.tailB s[i] = true) := Lib.hid (fun hc i hi hik => by
        rcases Nat.lt_succ_iff_lt_or_eq.1 hik with h1 | h1
        · exact AL.out i hi h1
        · subst h1; exact hc)
      have NF : Hid (At.tailB s[k] = false → At.nameB s = false) := Lib.hid (rname_bad hkl)
      clear AL
      generalize s[k] = c at *
      go_wp2_with fail
      refine (WD.out _).mono ?_
      rintro e u1 ⟨rfl, rfl⟩
      cases hc : At.tailB c
      · have N2 := Lib.hid (NF.out hc)
        clear NF ALn hc
        go_wp2_with fail
        go_ret
        exact ⟨by rw [N2.out]; rfl, rfl⟩
      · have A2 := Lib.hid (ALn.out hc)
        clear NF ALn hc
        go_wp2_with fail
        go_round
        case rel => exact ⟨k + 1, by omega, by go_num, A2⟩
        case measure => simp [intOf]; omega
    · obtain rfl : k = n := by omega
      by_cases h0 : k = 0
      · subst h0
        have N2 : Hid (At.nameB s = false) := Lib.hid (by
          have : s = [] := List.eq_nil_of_length_eq_zero HN.out
          rw [this]; rfl)
        clear AL
        go_wp2_with fail
        go_ret
        exact ⟨by rw [N2.out]; rfl, rfl⟩
      · have hp : 0 < s.length := by have := HN.out; omega
        have NG := Lib.hid (rname_good (fun i h => AL.out i h (by have := HN.out; omega)) hp)
        rw [HN.out] at NG
        have tg := tl_get s hp
        have LD := Lib.hid (fun u => rletter_any s[0] u)
        have d0 : (0 : Int) < (k : Int) := by omega
        have dk : decide ((k : Int) < (k : Int)) = false := by simp
        generalize s[0] = c at *
        clear AL h0 hlt
        cases h24 : decide ((k : Int) ≤ 24)
        · rw [h24] at NG
          go_wp2_with fail
          go_ret
          exact ⟨by rw [NG.out]; rfl, rfl⟩
        · rw [h24] at NG
          go_wp2_with fail
          refine (LD.out _).mono ?_
          rintro e u1 ⟨rfl, rfl⟩
          go_wp2_with fail
          go_ret
          exact ⟨by rw [NG.out]; rfl, rfl⟩
end Go.Proofs.YtlejeelmlclnkaaGreatDoor
namespace Go.Proofs.YtlejeelmlclnkaaGreatDoor
open Go.RowKit

set_option maxHeartbeats 2000000 in
set_option maxRecDepth 100000 in
theorem rrword_any (k : Int) (w : World) :
    Calls Tryz.prog 63 #[.int .i64 k] w fun e w' => e = .returned (.string (mkB (wordF k))) ∧ Below w.heap.size w w' := by
  by_cases h0 : k < 1
  · have WF : Hid (wordF k = []) := Lib.hid (word_out (by unfold At.kindB; rw [decide_eq_false (show ¬ 1 ≤ k by omega)]; rfl))
    have g1 : decide (k < 1) = true := by simpa using h0
    clear h0
    go_enter Tryz.func63, Tryz.ntmps63
    go_wp2_with fail
    go_ret
    exact ⟨by rw [WF.out]; rfl, (Below.refl _ _).alloc (Nat.le_refl _) _⟩
  · have g1 : decide (k < 1) = false := by simpa using h0
    by_cases h6 : 5 < k
    · have WF : Hid (wordF k = []) := Lib.hid (word_out (by unfold At.kindB; rw [decide_eq_false (show ¬ k ≤ 5 by omega)]; simp))
      have g2 : decide (5 < k) = true := by simpa using h6
      clear h0 h6
      go_enter Tryz.func63, Tryz.ntmps63
      go_wp2_with fail
      go_ret
      exact ⟨by rw [WF.out]; rfl, (Below.refl _ _).alloc (Nat.le_refl _) _⟩
    · rcases (show k = 1 ∨ k = 2 ∨ k = 3 ∨ k = 4 ∨ k = 5 by omega) with rfl | rfl | rfl | rfl | rfl
      all_goals
        clear h0 h6 g1
        go_enter Tryz.func63, Tryz.ntmps63
        go_wp2_with fail
        go_ret
        exact ⟨rfl, (Below.refl _ _).alloc (Nat.le_refl _) _⟩
set_option maxHeartbeats 2000000 in
set_option maxRecDepth 100000 in
theorem ron_any (x y : Int) (w : World) :
    Calls Tryz.prog 106 #[.agg #[.int .i64 x, .int .i64 y]] w fun e w' => e = .returned (.bool (At.onB x y)) ∧ Below w.heap.size w w' := by
  have BB := Lib.hid ((Below.refl w.heap.size w).alloc (Nat.le_refl _) (.cells #[.int .i64 x, .int .i64 y] 39))
  have OB : Hid (At.onB x y = (decide (0 ≤ x) && decide (x < 1048576) && decide (0 ≤ y) && decide (y < 1048576))) := Lib.hid rfl
  generalize At.onB x y = R at *
  cases h1 : decide (0 ≤ x) <;> cases h2 : decide (x < 1048576) <;> cases h3 : decide (0 ≤ y) <;> cases h4 : decide (y < 1048576)
  all_goals
    rw [h1, h2, h3, h4] at OB
    go_enter Tryz.func106, Tryz.ntmps106
    go_wp2_with fail
    go_ret
    exact ⟨by rw [OB.out]; rfl, BB.out⟩
theorem rtagsFrom_bad {l : List (Tx × Tx)} {last : Tx} {k : Nat} (h : k < l.length) (hb : (At.nameB l[k].1 && At.lt last l[k].1 && decide (l[k].2 ≠ []) && decide (l[k].2.length ≤ 200)) = false) : At.tagsFrom last (l.drop k) = false := by
  rw [tagsFrom_drop l last h, hb]; rfl
theorem rtagsFrom_good {l : List (Tx × Tx)} {last : Tx} {k : Nat} (h : k < l.length) (hb : (At.nameB l[k].1 && At.lt last l[k].1 && decide (l[k].2 ≠ []) && decide (l[k].2.length ≤ 200)) = true) : At.tagsFrom last (l.drop k) = At.tagsFrom l[k].1 (l.drop (k + 1)) := by
  rw [tagsFrom_drop l last h, hb]; rfl
theorem lt_name {t : Tx} (h : At.nameB t = true) : At.lt [] t = true := At.nil_lt (At.name_ne h)
theorem nil_len (t : Tx) : decide (t ≠ []) = !decide ((t.length : Int) < 1) := by
  cases t with
  | nil => rfl
  | cons a l => simp; omega
theorem le200 (t : Tx) : decide (t.length ≤ 200) = !decide ((200 : Int) < (t.length : Int)) := by
  rw [Bool.eq_iff_iff]; simp; omega
def lastT (l : List (Tx × Tx)) (k : Nat) : Tx := if k = 0 then [] else (l[k - 1]?.map Prod.fst).getD []
theorem lastT_succ {l : List (Tx × Tx)} {k : Nat} (h : k < l.length) : lastT l (k + 1) = l[k].1 := by
  unfold lastT; rw [if_neg (by omega), Nat.add_sub_cancel, List.getElem?_eq_getElem h]; rfl
set_option maxHeartbeats 4000000 in
set_option maxRecDepth 100000 in
theorem rtags_any (A : Option Addr) (c : Nat) (l : List (Tx × Tx)) (n : Nat) (w : World) (hn : n = l.length) (hl : n ≤ 1000000) (hs : ∀ t ∈ l, t.1.length ≤ 9223372036854775807 ∧ t.2.length ≤ 9223372036854775807) (h : Rd w A (tagsC l)) :
    Calls Tryz.prog 108 #[.slice A n c] w fun e w' => e = .returned (.bool (At.tagsB l)) ∧ Below w.heap.size w w' := by
  have H := Lib.hid h; clear h
  have HS := Lib.hid hs; clear hs
  have HN := Lib.hid hn; clear hn
  obtain ⟨R, hR⟩ : ∃ R, At.tagsB l = R := ⟨_, rfl⟩
  have HR : Hid (R = (At.tagsFrom [] l && decide (n ≤ 60))) := Lib.hid (by rw [← hR, HN.out]; rfl)
  rw [hR]
  clear hR
  have HB : Hid (Below w.heap.size w w) := Lib.hid (Below.refl _ _)
  by_cases h60 : 60 < n
  · have g1 : decide ((60 : Int) < (n : Int)) = true := by simp; omega
    have RF : Hid (R = false) := Lib.hid (by rw [HR.out, decide_eq_false (by omega), Bool.and_false])
    clear h60
    go_enter Tryz.func108, Tryz.ntmps108
    go_wp2_with fail
    go_ret
    exact ⟨by rw [RF.out]; rfl, HB.out⟩
  · have g1 : decide ((60 : Int) < (n : Int)) = false := by simp; omega
    have HR : Hid (R = At.tagsFrom (lastT l 0) (l.drop 0)) := Lib.hid (by rw [HR.out, decide_eq_true (by omega), Bool.and_true]; rfl)
    have h60' : n ≤ 60 := by omega
    clear h60
    rename_i HR0
    clear HR0
    go_enter Tryz.func108, Tryz.ntmps108
    go_wp2_with fail
    clear g1
    go_loopw [3] (fun s3 wr => ∃ (k : Nat), k ≤ n ∧ s3 = .int .i64 (k : Int) ∧ Hid (R = At.tagsFrom (lastT l k) (l.drop k)) ∧ Hid (Below w.heap.size w wr)) (fun i _ => n - (intOf i).toNat)
    case atStart => exact ⟨0, Nat.zero_le _, rfl, HR, HB⟩
    case round =>
      clear HB HR
      obtain ⟨k, hk, rfl, HR, BL⟩ := hrel
      by_cases hlt : k < n
      · have hkl : k < l.length := by rw [← HN.out]; exact hlt
        have d1 : (k : Int) < (n : Int) := by omega
        have d2 : (0 : Int) ≤ (k : Int) := by omega
        have k8 : IntKind.i64.wrap ((k : Int) + 1) = (k : Int) + 1 := IntWalk.i64_in _ (by omega)
        obtain ⟨b, off, rfl, hb, c0, c1⟩ := tags_at (H.out.below BL.out) hkl
        have SZ := HS.out l[k] (List.getElem_mem hkl)
        have TB := Lib.hid (fun h => HR.out.trans (rtagsFrom_bad (last := lastT l k) hkl h))
        have TG : Hid ((At.nameB l[k].1 && At.lt (lastT l k) l[k].1 && decide (l[k].2 ≠ []) && decide (l[k].2.length ≤ 200)) = true → R = At.tagsFrom (lastT l (k + 1)) (l.drop (k + 1))) := Lib.hid (fun h => by rw [lastT_succ hkl]; exact HR.out.trans (rtagsFrom_good (last := lastT l k) hkl h))
        have NA := nil_len l[k].2
        have NB := le200 l[k].2
        have NM := Lib.hid (fun u => rname_any l[k].1 u SZ.1)
        have LT0 : Hid (k = 0 → lastT l k = []) := Lib.hid (fun h => by rw [h]; rfl)
        have LTS : Hid (∀ j, k = j + 1 → ∃ x0, lastT l k = x0 ∧ wr.cell? ⟨b, off + j * 2, none⟩ = some (.string (mkB x0))) := Lib.hid (fun j h => by
          have hk1 : j < l.length := by omega
          obtain ⟨b', off', e', hb', c0', c1'⟩ := tags_at (H.out.below BL.out) hk1
          obtain ⟨rfl, rfl⟩ : b = b' ∧ off = off' := by injection e' with e'; injection e' with e1 e2; exact ⟨e1, e2⟩
          subst h
          exact ⟨_, lastT_succ hk1, c0'⟩)
        generalize l[k] = x at *
        obtain ⟨last2, hl2⟩ : ∃ x, lastT l (k + 1) = x := ⟨_, rfl⟩
        have HL2 := Lib.hid hl2
        rw [hl2] at TG
        clear hl2
        generalize lastT l k = last at *
        obtain ⟨x1, x2⟩ := x
        dsimp only at c0 c1 SZ NA NB NM TB TG
        have z2 := mkB_len x2
        have t1 := mkB_tl x1
        rw [NA, NB] at TB TG
        clear NA NB SZ
        generalize hq1 : decide ((x2.length : Int) < 1) = q1 at *
        generalize hq2 : decide ((200 : Int) < (x2.length : Int)) = q2 at *
        cases ha : At.nameB x1
        · have RF := Lib.hid (TB.out (by rw [ha]; rfl))
          rw [ha] at NM
          clear TB TG LT0 LTS
          go_wp2_with fail
          go_quiet ((go_at_call 107; exact Calls.quiet_of_same (NM.out _)))
          go_wp2_with fail
          go_ret
          exact ⟨by rw [RF.out]; rfl, belowNN BL.out _⟩
        · rw [ha] at NM
          cases q1 with
          | true =>
            have RF := Lib.hid (TB.out (by simp))
            clear TB TG LT0 LTS
            go_wp2_with fail
            go_quiet ((go_at_call 107; exact Calls.quiet_of_same (NM.out _)))
            go_wp2_with fail
            go_ret
            exact ⟨by rw [RF.out]; rfl, belowNN BL.out _⟩
          | false =>
            cases q2 with
            | true =>
              have RF := Lib.hid (TB.out (by simp))
              clear TB TG LT0 LTS
              go_wp2_with fail
              go_quiet ((go_at_call 107; exact Calls.quiet_of_same (NM.out _)))
              go_wp2_with fail
              go_ret
              exact ⟨by rw [RF.out]; rfl, belowNN BL.out _⟩
            | false =>
              cases k with
              | zero =>
                have e0 := LT0.out rfl
                subst e0
                have RG := Lib.hid (TG.out (by rw [ha, lt_name ha]; rfl))
                have g0 : decide ((0 : Int) < ((0 : Nat) : Int)) = false := by simp
                have d3 : (0 : Int) < (n : Int) := by omega
                simp only [Nat.zero_mul, Nat.add_zero] at c0 c1
                clear TB TG LT0 LTS
                go_wp2_with fail
                go_quiet ((go_at_call 107; exact Calls.quiet_of_same (NM.out _)))
                go_wp2_with fail
                exact ⟨⟨0 + 1, by omega, by go_num, Lib.hid (by rw [HL2.out]; exact RG.out), Lib.hid (belowNN BL.out _)⟩, by simp [intOf]; omega⟩
              | succ j =>
                obtain ⟨x0, e0, cp⟩ := LTS.out j rfl
                subst e0
                have t0 := mkB_tl last
                have w1 : IntKind.i64.wrap (j : Int) = (j : Int) := IntWalk.i64_in _ (by omega)
                have g0 : decide ((0 : Int) < ((j + 1 : Nat) : Int)) = true := by simp
                have g1 : decide ((0 : Int) < (j : Int) + 1) = true := by first | (simp; done) | (simp; omega)
                have d3 : (j : Int) < (n : Int) := by omega
                have d4 : (0 : Int) ≤ (j : Int) := by omega
                clear LT0 LTS
                rcases lt_facts last x1 with ⟨p1, p2, p3⟩ | ⟨p1, p2, p3⟩ | ⟨p1, p2, p3⟩
                · have p4 : Op.bytesLess x1 last = true := p1
                  have RF := Lib.hid (TB.out (by rw [show At.lt last x1 = false from p2]; simp))
                  clear TB TG p1
                  go_wp2_with fail
                  go_quiet ((go_at_call 107; exact Calls.quiet_of_same (NM.out _)))
                  go_wp2_with fail
                  go_ret
                  exact ⟨by rw [RF.out]; rfl, belowNN BL.out _⟩
                · have p4 : Op.bytesLess x1 last = false := p1
                  have RG := Lib.hid (TG.out (by rw [ha, show At.lt last x1 = true from p2]; rfl))
                  clear TB TG p1
                  go_wp2_with fail
                  go_quiet ((go_at_call 107; exact Calls.quiet_of_same (NM.out _)))
                  go_wp2_with fail
                  exact ⟨⟨j + 1 + 1, by omega, by go_num, Lib.hid (by rw [HL2.out]; exact RG.out), Lib.hid (belowNN BL.out _)⟩, by simp [intOf]; omega⟩
                · have p4 : Op.bytesLess x1 last = false := p1
                  have RF := Lib.hid (TB.out (by rw [show At.lt last x1 = false from p2]; simp))
                  clear TB TG p1
                  go_wp2_with fail
                  go_quiet ((go_at_call 107; exact Calls.quiet_of_same (NM.out _)))
                  go_wp2_with fail
                  go_ret
                  exact ⟨by rw [RF.out]; rfl, belowNN BL.out _⟩
      · obtain rfl : k = n := by omega
        have dk : decide ((k : Int) < (k : Int)) = false := by simp
        have RT : Hid (R = true) := Lib.hid (by rw [HR.out, List.drop_of_length_le (by rw [← HN.out]; exact Nat.le_refl _)]; rfl)
        clear hlt
        go_wp2_with fail
        go_ret
        exact ⟨by rw [RT.out]; rfl, BL.out⟩
end Go.Proofs.YtlejeelmlclnkaaGreatDoor
namespace Go.Proofs.YtlejeelmlclnkaaGreatDoor
open Go.RowKit Go.Maps Go.ChangeMaps Go.MapKept Go.WideShapes Go.WideMaps

def finB (kind : Int) (n : Nat) : Bool := if kind = 1 then ((n : Int) == 0) else if kind = 2 then decide ((2 : Int) ≤ (n : Int)) else if kind = 3 then decide ((3 : Int) ≤ (n : Int)) else if kind = 4 then decide ((1 : Int) ≤ (n : Int)) else ((n : Int) == 3)
def rrefsB (o : At.Ob) : Bool := decide (o.refs.length ≤ 2000) && At.refsFrom o.kind [] [] o.refs && finB o.kind o.refs.length
theorem refsFrom_dropR (kind : Int) (last : Tx) (seen l : List Tx) {k : Nat} (h : k < l.length) :
    At.refsFrom kind last seen (l.drop k) = (!(decide (kind = 2) && decide (l[k] = last) || decide (kind = 3) && decide (l[k] ∈ seen)) && At.nameB l[k] && At.refsFrom kind l[k] (l[k] :: seen) (l.drop (k + 1))) := by
  rw [List.drop_eq_getElem_cons h, At.refsFrom]
def lastS (l : List Tx) (k : Nat) : Tx := if k = 0 then [] else (l[k - 1]?).getD []
theorem lastS_succ {l : List Tx} {k : Nat} (h : k < l.length) : lastS l (k + 1) = l[k] := by
  unfold lastS; rw [if_neg (by omega), Nat.add_sub_cancel, List.getElem?_eq_getElem h]; rfl
theorem rev_take {l : List Tx} {k : Nat} (h : k < l.length) : (l.take (k + 1)).reverse = l[k] :: (l.take k).reverse := by
  rw [List.take_succ_eq_append_getElem h, List.reverse_append]; rfl
set_option maxHeartbeats 8000000 in
set_option maxRecDepth 100000 in
theorem rrefs_any (o : RO) (w : World) (h : ObIs w o) (hs : ObSz o.c) :
    Calls Tryz.prog 109 #[roA o] w fun e w' => e = .returned (.bool (rrefsB o.c)) ∧ Below w.heap.size w w' := by
  obtain ⟨⟨A1, c1, v1, r1⟩, ⟨A2, c2, v2, r2⟩⟩ := h
  obtain ⟨W, hW⟩ : ∃ W, W = w.alloc (.cells #[.string (mkB o.c.id), .int .i64 o.c.kind, .int .i64 o.c.x, .int .i64 o.c.y, o.rv, o.tv] 43) := ⟨_, rfl⟩
  have hx : W.heap[w.heap.size]? = some (.cells #[.string (mkB o.c.id), .int .i64 o.c.kind, .int .i64 o.c.x, .int .i64 o.c.y, o.rv, o.tv] 43 (0, 0)) := by rw [hW]; exact heap_alloc_new w _
  have HB : Below w.heap.size w W := by rw [hW]; exact (Below.refl _ _).alloc (Nat.le_refl _) _
  have HZ : W.heap.size = w.heap.size + 1 := by rw [hW]; simp
  have RS := Lib.hid r1
  have SR := Lib.hid hs.ref
  have SL := hs.refs
  obtain ⟨n, hn⟩ : ∃ n, o.c.refs.length = n := ⟨_, rfl⟩
  have HN := Lib.hid hn
  rw [hn] at SL
  have RD : Hid (rrefsB o.c = (decide (n ≤ 2000) && At.refsFrom o.c.kind [] [] o.c.refs && finB o.c.kind n)) := Lib.hid (by rw [← hn]; rfl)
  generalize rrefsB o.c = R at *
  unfold roA
  have hW2 := hW
  rw [v1, v2] at hW2 hx ⊢
  rw [hn] at hW2 hx ⊢
  clear hW hn r1 r2 v1 v2 hs
  have x1 := cell_of_row W w.heap.size 1 _ _ _ hx
  have x4 := cell_of_row W w.heap.size 4 _ _ _ hx
  simp at x1 x4
  generalize o.c.refs = l at *
  generalize o.c.kind = kd at *
  by_cases h2000 : 2000 < n
  · have g1 : decide ((2000 : Int) < (n : Int)) = true := by simp; omega
    have RF : Hid (R = false) := Lib.hid (by rw [RD.out, decide_eq_false (by omega)]; rfl)
    have HBH := Lib.hid HB
    clear h2000 HB RD
    go_enter Tryz.func109, Tryz.ntmps109
    go_upto_region 1 with fail
    rw [← hW2]
    clear hW2
    go_wp2_with fail
    go_ret
    exact ⟨by rw [RF.out]; rfl, HBH.out⟩
  · have g1 : decide ((2000 : Int) < (n : Int)) = false := by simp; omega
    have HBH := Lib.hid HB
    have RD : Hid (R = (At.refsFrom kd (lastS l 0) (l.take 0).reverse (l.drop 0) && finB kd n)) := Lib.hid (by rw [RD.out, decide_eq_true (by omega)]; rfl)
    have n2000 : n ≤ 2000 := by omega
    have h2 : ∀ u : World, (Instr.makeMap 104 none).run Tryz.prog u = .ok (.map (some u.heap.size)) (u.alloc (.map #[] 0)) := fun u => run_makeMap _ _
    clear h2000 HB
    go_enter Tryz.func109, Tryz.ntmps109
    go_upto_region 1 with fail
    rw [← hW2]
    clear hW2
    go_wp2_with fail
    obtain ⟨bm, hbm⟩ : ∃ b, b = w.heap.size + 1 := ⟨_, rfl⟩
    have MP : Hid (MapAt (W.alloc (.map #[] 0)) Tryz.prog 9 bm (seenM (l.take 0).reverse) 0) := Lib.hid (by
      have hm := MapAt.made W Tryz.prog 9
      rw [show (fun _ => none : Lit → Option Value) = seenM [] by funext x; cases x <;> simp [seenM]] at hm
      rw [hbm, ← HZ]; exact hm)
    have BB : Hid (Below w.heap.size w (W.alloc (.map #[] 0))) := Lib.hid (HBH.out.alloc (by omega) _)
    have HX : Hid ((W.alloc (.map #[] 0)).heap[w.heap.size]? = some (.cells #[.string (mkB o.c.id), .int .i64 kd, .int .i64 o.c.x, .int .i64 o.c.y, .slice A1 n c1, .slice A2 o.c.tags.length c2] 43 (0, 0))) := Lib.hid ((alloc_old _ _ (by omega)).trans hx)
    rw [← hbm]
    have hbw : w.heap.size < bm := by omega
    generalize W.alloc (.map #[] 0) = V at *
    clear x1 x4 hx h2 g1 HBH HZ
    go_loopw [5] (fun s5 wr => ∃ k nk : Nat, k ≤ n ∧ s5 = .int .i64 (k : Int) ∧ nk ≤ k ∧ Hid (R = (At.refsFrom kd (lastS l k) (l.take k).reverse (l.drop k) && finB kd n)) ∧ Hid (MapAt wr Tryz.prog 9 bm (seenM (l.take k).reverse) nk) ∧ Hid (Below w.heap.size w wr) ∧ Hid (wr.heap[w.heap.size]? = some (.cells #[.string (mkB o.c.id), .int .i64 kd, .int .i64 o.c.x, .int .i64 o.c.y, .slice A1 n c1, .slice A2 o.c.tags.length c2] 43 (0, 0)))) (fun i _ => n - (intOf i).toNat)
    case atStart => exact ⟨0, 0, Nat.zero_le _, rfl, Nat.le_refl _, RD, MP, BB, HX⟩
    case round =>
      clear MP BB HX RD
      obtain ⟨k, nk, hk, rfl, hnk, HR, MP, BL, HX⟩ := hrel
      by_cases hlt : k < n
      · have hkl : k < l.length := by rw [HN.out]; exact hlt
        have d1 : (k : Int) < (n : Int) := by omega
        have d2 : (0 : Int) ≤ (k : Int) := by omega
        have k8 : IntKind.i64.wrap ((k : Int) + 1) = (k : Int) + 1 := IntWalk.i64_in _ (by omega)
        obtain ⟨b, off, rfl, hb, c0⟩ := strs_at (RS.out.below BL.out) hkl
        have SZ := SR.out l[k] (List.getElem_mem hkl)
        have y1 := cell_of_row wr w.heap.size 1 _ _ _ HX.out
        have y4 := cell_of_row wr w.heap.size 4 _ _ _ HX.out
        simp at y1 y4
        have TB : Hid ((!(decide (kd = 2) && decide (l[k] = lastS l k) || decide (kd = 3) && decide (l[k] ∈ (l.take k).reverse)) && At.nameB l[k]) = false → R = false) := Lib.hid (fun h => by rw [HR.out, refsFrom_dropR _ _ _ _ hkl, h]; rfl)
        have TG : Hid ((!(decide (kd = 2) && decide (l[k] = lastS l k) || decide (kd = 3) && decide (l[k] ∈ (l.take k).reverse)) && At.nameB l[k]) = true → R = (At.refsFrom kd (lastS l (k + 1)) (l.take (k + 1)).reverse (l.drop (k + 1)) && finB kd n)) := Lib.hid (fun h => by rw [HR.out, refsFrom_dropR _ _ _ _ hkl, h, lastS_succ hkl, rev_take hkl]; rfl)
        have LT0 : Hid (k = 0 → lastS l k = []) := Lib.hid (fun h => by rw [h]; rfl)
        have LTS : Hid (∀ j, k = j + 1 → wr.cell? ⟨b, off + j, none⟩ = some (.string (mkB (lastS l k)))) := Lib.hid (fun j h => by
          have hk1 : j < l.length := by omega
          obtain ⟨b', off', e', hb', c0'⟩ := strs_at (RS.out.below BL.out) hk1
          obtain ⟨rfl, rfl⟩ : b = b' ∧ off = off' := by injection e' with e'; injection e' with e1 e2; exact ⟨e1, e2⟩
          subst h
          rw [lastS_succ hk1]; exact c0')
        have NM := Lib.hid (fun u => rname_any l[k] u (Nat.le_trans SZ (by decide)))
        have KS := key_str l[k] SZ
        have LK : Hid (∀ m, (Instr.lookup 104 (.map (some bm)) (.string (mkB l[k])) false).run Tryz.prog (wr.drewN m) = .ok (.bool (decide (l[k] ∈ (l.take k).reverse))) (wr.drewN m)) := Lib.hid (fun m => by
          have h1 := (MP.out.same (w' := wr.drewN m) rfl).look strK Tryz.underlying104 (zBool _) KS
          rw [h1]
          have h2 : (seenM (l.take k).reverse (.string l[k])).getD (.bool false) = .bool (decide (l[k] ∈ (l.take k).reverse)) := by
            unfold seenM; by_cases e : l[k] ∈ (l.take k).reverse
            · simp only [e, if_true, decide_true]; rfl
            · simp only [e, if_false, decide_false]; rfl
          rw [h2])
        have MPN : Hid (∀ m, ∃ w2, (Instr.mapUpdate 104 (.map (some bm)) (.string (mkB l[k])) (.bool true)).run Tryz.prog (wr.drewN m) = .ok () w2 ∧ ∃ nk2, MapAt w2 Tryz.prog 9 bm (seenM (l.take (k + 1)).reverse) nk2 ∧ nk2 ≤ k + 1 ∧ Below w.heap.size w w2 ∧ w2.heap[w.heap.size]? = some (.cells #[.string (mkB o.c.id), .int .i64 kd, .int .i64 o.c.x, .int .i64 o.c.y, .slice (some ⟨b, off, none⟩) n c1, .slice A2 o.c.tags.length c2] 43 (0, 0))) := Lib.hid (fun m => by
          obtain ⟨w2, hup, hm2, hg2⟩ := (MP.out.same (w' := wr.drewN m) rfl).upd strK Tryz.underlying104 (by unfold maxLen; omega) KS (.bool true)
          rw [seenM_upd, ← rev_take hkl] at hm2
          have hsz := BL.out.size
          have hbmw : bm < wr.heap.size := MP.out.lt
          refine ⟨w2, hup, _, hm2, by split <;> omega, (belowNN BL.out m).trans ⟨hg2.os, hg2.tape, hg2.output, hg2.size, fun q hq => hg2.block q (Nat.lt_of_lt_of_le hq hsz) (fun e => by have := Option.some.inj e; omega)⟩, (hg2.block _ (show w.heap.size < wr.heap.size by omega) (fun e => by have := Option.some.inj e; omega)).trans HX.out⟩)
        obtain ⟨last2, hl2⟩ : ∃ x, lastS l (k + 1) = x := ⟨_, rfl⟩
        obtain ⟨seen2, hs2⟩ : ∃ x, (l.take (k + 1)).reverse = x := ⟨_, rfl⟩
        have HL2 := Lib.hid hl2
        have HS2 := Lib.hid hs2
        rw [hl2, hs2] at TG
        rw [hs2] at MPN
        have HBM := Lib.hid hbm
        clear hl2 hs2 KS HR MP HX hbm
        generalize (l.take k).reverse = seen at *
        generalize lastS l k = last at *
        generalize l[k] = s at *
        have ts := mkB_tl s
        have tl := mkB_tl last
        cases ha : At.nameB s
        · rw [ha] at NM
          clear LT0 LTS LK
          have RF := Lib.hid (TB.out (by rw [ha, Bool.and_false]))
          clear TB TG MPN
          go_wp2_with fail
          go_quiet ((go_at_call 107; exact Calls.quiet_of_same (NM.out _)))
          go_wp2_with fail
          go_ret
          exact ⟨by rw [RF.out]; rfl, belowNN BL.out _⟩
        · rw [ha] at NM
          have sne := At.name_ne ha
          by_cases k2 : kd = 2
          · subst k2
            cases k with
            | zero =>
              have e0 := LT0.out rfl
              have g0 : decide ((0 : Int) < ((0 : Nat) : Int)) = false := by simp
              have d3 : (0 : Int) < (n : Int) := by omega
              simp only [Nat.add_zero] at c0
              clear LT0 LTS
              have RG := Lib.hid (TG.out (by rw [ha, e0, decide_eq_false sne]; simp))
              clear TB TG
              go_wp2_with fail
              go_quiet ((go_at_call 107; exact Calls.quiet_of_same (NM.out _)))
              obtain ⟨w2, hup, nk2, hm2, hn2, bl2, hx2⟩ := MPN.out nq
              have M2 := Lib.hid hm2
              have B2 := Lib.hid bl2
              have X2 := Lib.hid hx2
              clear hm2 bl2 hx2 MPN LK
              go_wp2_with fail
              exact ⟨⟨0 + 1, nk2, by omega, by go_num, hn2, Lib.hid (by rw [HL2.out, HS2.out]; exact RG.out), Lib.hid (by rw [HS2.out]; exact M2.out), B2, X2⟩, by simp [intOf]; omega⟩
            | succ j =>
              have cp := LTS.out j rfl
              have w1 : IntKind.i64.wrap (j : Int) = (j : Int) := IntWalk.i64_in _ (by omega)
              have g0 : decide ((0 : Int) < ((j + 1 : Nat) : Int)) = true := by simp
              have g1 : decide ((0 : Int) < (j : Int) + 1) = true := by first | (simp; done) | (simp; omega)
              have d3 : (j : Int) < (n : Int) := by omega
              have d4 : (0 : Int) ≤ (j : Int) := by omega
              clear LT0 LTS
              by_cases e : s = last
              · have e1 : (last == s) = true := by rw [e]; simp
                have RF := Lib.hid (TB.out (by rw [ha, decide_eq_true e]; simp))
                clear TB TG MPN e
                go_wp2_with fail
                go_quiet ((go_at_call 107; exact Calls.quiet_of_same (NM.out _)))
                go_wp2_with fail
                go_ret
                exact ⟨by rw [RF.out]; rfl, belowNN BL.out _⟩
              · have e1 : (last == s) = false := by simpa using fun h => e h.symm
                have RG := Lib.hid (TG.out (by rw [ha, decide_eq_false e]; simp))
                clear TB TG
                go_wp2_with fail
                go_quiet ((go_at_call 107; exact Calls.quiet_of_same (NM.out _)))
                obtain ⟨w2, hup, nk2, hm2, hn2, bl2, hx2⟩ := MPN.out nq
                have M2 := Lib.hid hm2
                have B2 := Lib.hid bl2
                have X2 := Lib.hid hx2
                clear hm2 bl2 hx2 MPN LK
                go_wp2_with fail
                exact ⟨⟨j + 1 + 1, nk2, by omega, by go_num, hn2, Lib.hid (by rw [HL2.out, HS2.out]; exact RG.out), Lib.hid (by rw [HS2.out]; exact M2.out), B2, X2⟩, by simp [intOf]; omega⟩
          · by_cases k3 : kd = 3
            · subst k3
              have lk := LK.out
              cases hds : decide (s ∈ seen)
              · simp only [hds] at lk
                have RG := Lib.hid (TG.out (by rw [ha, hds]; simp))
                clear TB TG
                go_wp2_with fail
                go_quiet ((go_at_call 107; exact Calls.quiet_of_same (NM.out _)))
                obtain ⟨w2, hup, nk2, hm2, hn2, bl2, hx2⟩ := MPN.out nq
                have M2 := Lib.hid hm2
                have B2 := Lib.hid bl2
                have X2 := Lib.hid hx2
                clear hm2 bl2 hx2 MPN LK
                go_wp2_with fail
                exact ⟨⟨k + 1, nk2, by omega, by go_num, hn2, Lib.hid (by rw [HL2.out, HS2.out]; exact RG.out), Lib.hid (by rw [HS2.out]; exact M2.out), B2, X2⟩, by simp [intOf]; omega⟩
              · simp only [hds] at lk
                have RF := Lib.hid (TB.out (by rw [ha, hds]; simp))
                clear TB TG MPN
                go_wp2_with fail
                go_quiet ((go_at_call 107; exact Calls.quiet_of_same (NM.out _)))
                go_wp2_with fail
                go_ret
                exact ⟨by rw [RF.out]; rfl, belowNN BL.out _⟩
            · have e2 : (kd == 2) = false := by simpa using k2
              have e3 : (kd == 3) = false := by simpa using k3
              have RG := Lib.hid (TG.out (by rw [ha, decide_eq_false k2, decide_eq_false k3]; simp))
              clear TB TG
              go_wp2_with fail
              go_quiet ((go_at_call 107; exact Calls.quiet_of_same (NM.out _)))
              obtain ⟨w2, hup, nk2, hm2, hn2, bl2, hx2⟩ := MPN.out nq
              have M2 := Lib.hid hm2
              have B2 := Lib.hid bl2
              have X2 := Lib.hid hx2
              clear hm2 bl2 hx2 MPN LK
              go_wp2_with fail
              exact ⟨⟨k + 1, nk2, by omega, by go_num, hn2, Lib.hid (by rw [HL2.out, HS2.out]; exact RG.out), Lib.hid (by rw [HS2.out]; exact M2.out), B2, X2⟩, by simp [intOf]; omega⟩
      · obtain rfl : k = n := by omega
        have dk : decide ((k : Int) < (k : Int)) = false := by simp
        have RT : Hid (R = finB kd k) := Lib.hid (by rw [HR.out, List.drop_of_length_le (by rw [HN.out]; exact Nat.le_refl _)]; rfl)
        have y1 := cell_of_row wr w.heap.size 1 _ _ _ HX.out
        simp at y1
        clear hlt HR MP HX
        by_cases k1 : kd = 1
        · subst k1
          have RV : Hid (R = ((k : Int) == 0)) := Lib.hid (by rw [RT.out]; unfold finB; rw [if_pos rfl])
          clear RT
          cases hz : (((k : Int) == 0))
          all_goals
            rw [hz] at RV
            go_wp2_with fail
            go_ret
            exact ⟨by rw [RV.out]; rfl, BL.out⟩
        · by_cases k2 : kd = 2
          · subst k2
            have RV : Hid (R = decide ((2 : Int) ≤ (k : Int))) := Lib.hid (by rw [RT.out]; unfold finB; rw [if_neg (by decide), if_pos rfl])
            clear RT
            cases hz : (decide ((2 : Int) ≤ (k : Int)))
            all_goals
              rw [hz] at RV
              go_wp2_with fail
              go_ret
              exact ⟨by rw [RV.out]; rfl, BL.out⟩
          · by_cases k3 : kd = 3
            · subst k3
              have RV : Hid (R = decide ((3 : Int) ≤ (k : Int))) := Lib.hid (by rw [RT.out]; unfold finB; rw [if_neg (by decide), if_neg (by decide), if_pos rfl])
              clear RT
              cases hz : (decide ((3 : Int) ≤ (k : Int)))
              all_goals
                rw [hz] at RV
                go_wp2_with fail
                go_ret
                exact ⟨by rw [RV.out]; rfl, BL.out⟩
            · by_cases k4 : kd = 4
              · subst k4
                have RV : Hid (R = decide ((1 : Int) ≤ (k : Int))) := Lib.hid (by rw [RT.out]; unfold finB; rw [if_neg (by decide), if_neg (by decide), if_neg (by decide), if_pos rfl])
                clear RT
                cases hz : (decide ((1 : Int) ≤ (k : Int)))
                all_goals
                  rw [hz] at RV
                  go_wp2_with fail
                  go_ret
                  exact ⟨by rw [RV.out]; rfl, BL.out⟩
              · have e1 : (kd == 1) = false := by simpa using k1
                have e2 : (kd == 2) = false := by simpa using k2
                have e3 : (kd == 3) = false := by simpa using k3
                have e4 : (kd == 4) = false := by simpa using k4
                have RV : Hid (R = ((k : Int) == 3)) := Lib.hid (by rw [RT.out]; unfold finB; rw [if_neg k1, if_neg k2, if_neg k3, if_neg k4])
                clear RT
                cases hz : (((k : Int) == 3))
                all_goals
                  rw [hz] at RV
                  go_wp2_with fail
                  go_ret
                  exact ⟨by rw [RV.out]; rfl, BL.out⟩
end Go.Proofs.YtlejeelmlclnkaaGreatDoor
namespace Go.Proofs.YtlejeelmlclnkaaGreatDoor
open Go.RowKit

def ratB (o : At.Ob) : Bool := if o.kind = 1 then At.onB o.x o.y else (decide (o.x = 0) && decide (o.y = 0))
theorem rvalid_eq (o : At.Ob) : (At.nameB o.id && At.kindB o.kind && ratB o && At.tagsB o.tags && rrefsB o) = At.validO o := by
  unfold At.validO rrefsB ratB At.formB At.zeroAt finB At.leastF
  generalize At.nameB o.id = a
  generalize At.tagsB o.tags = b
  generalize At.refsFrom o.kind [] [] o.refs = c
  generalize At.onB o.x o.y = d
  generalize (decide (o.x = 0) && decide (o.y = 0)) = e
  generalize o.refs.length = n
  cases hk : At.kindB o.kind
  · simp
  · have hk2 := hk
    unfold At.kindB at hk2
    simp only [Bool.and_eq_true, decide_eq_true_eq] at hk2
    rw [Bool.eq_iff_iff]
    rcases (show o.kind = 1 ∨ o.kind = 2 ∨ o.kind = 3 ∨ o.kind = 4 ∨ o.kind = 5 by omega) with h | h | h | h | h
    all_goals
      simp only [h, if_true, if_false, Bool.and_eq_true, decide_eq_true_eq, beq_iff_eq, Int.reduceEq]
      constructor
      · rintro ⟨⟨⟨⟨h1, -⟩, h3⟩, h4⟩, ⟨h5, h6⟩, h7⟩
        refine ⟨⟨⟨⟨⟨⟨?_, ?_⟩, ?_⟩, ?_⟩, ?_⟩, ?_⟩, ?_⟩
        all_goals first | trivial | assumption | omega | exact ⟨by omega, h3⟩
      · rintro ⟨⟨⟨⟨⟨⟨-, h2⟩, h3⟩, h4⟩, h5⟩, h6⟩, h7⟩
        refine ⟨⟨⟨⟨?_, ?_⟩, ?_⟩, ?_⟩, ⟨?_, ?_⟩, ?_⟩
        all_goals first | trivial | assumption | omega | exact h7.2 | (have := h7.1; omega)
set_option maxHeartbeats 8000000 in
set_option maxRecDepth 100000 in
theorem rvalid_any (o : RO) (w : World) (h : ObIs w o) (hs : ObSz o.c) :
    Calls Tryz.prog 67 #[roA o] w fun e w' => e = .returned (.bool (At.validO o.c)) ∧ Below w.heap.size w w' := by
  have HO := Lib.hid h
  have HSZ := Lib.hid hs
  obtain ⟨⟨A1, c1, v1, r1⟩, ⟨A2, c2, v2, r2⟩⟩ := h
  obtain ⟨W, hW⟩ : ∃ W, W = w.alloc (.cells #[.string (mkB o.c.id), .int .i64 o.c.kind, .int .i64 o.c.x, .int .i64 o.c.y, o.rv, o.tv] 43) := ⟨_, rfl⟩
  have hx : W.heap[w.heap.size]? = some (.cells #[.string (mkB o.c.id), .int .i64 o.c.kind, .int .i64 o.c.x, .int .i64 o.c.y, o.rv, o.tv] 43 (0, 0)) := by rw [hW]; exact heap_alloc_new w _
  have HB : Below w.heap.size w W := by rw [hW]; exact (Below.refl _ _).alloc (Nat.le_refl _) _
  have HZ : W.heap.size = w.heap.size + 1 := by rw [hW]; simp
  have HBH := Lib.hid HB
  have BX : Hid (∀ u, OldB W u → Below w.heap.size w u ∧ u.heap[w.heap.size]? = some (.cells #[.string (mkB o.c.id), .int .i64 o.c.kind, .int .i64 o.c.x, .int .i64 o.c.y, o.rv, o.tv] 43 (0, 0))) :=
    Lib.hid (fun u hu => ⟨HB.trans (Below.mono hu HB.size), (hu.block _ (by omega)).trans hx⟩)
  have ON := Lib.hid (fun u => ron_any o.c.x o.c.y u)
  have NM := Lib.hid (fun u => rname_any o.c.id u (Nat.le_trans hs.id (by decide)))
  have WD := Lib.hid (fun u => rrword_any o.c.kind u)
  have TG : Hid (∀ u, OldB W u → Calls Tryz.prog 108 #[.slice A2 o.c.tags.length c2] u fun e w' => e = .returned (.bool (At.tagsB o.c.tags)) ∧ Below u.heap.size u w') := Lib.hid (fun u hu => rtags_any A2 c2 _ _ u rfl hs.tags hs.tag (r2.below (BX.out u hu).1))
  have RF : Hid (∀ u, OldB W u → Calls Tryz.prog 109 #[roA o] u fun e w' => e = .returned (.bool (rrefsB o.c)) ∧ Below u.heap.size u w') := Lib.hid (fun u hu => rrefs_any o u (HO.out.below (BX.out u hu).1) HSZ.out)
  have KW := wordF_ne (k := o.c.kind)
  have tw := mkB_tl (wordF o.c.kind)
  have te := mkB_tl []
  have em : (ByteArray.mk #[]) = mkB [] := rfl
  have VR : Hid (At.validO o.c = (At.nameB o.c.id && At.kindB o.c.kind && ratB o.c && At.tagsB o.c.tags && rrefsB o.c)) := Lib.hid (rvalid_eq _).symm
  have RA : Hid (ratB o.c = if o.c.kind = 1 then At.onB o.c.x o.c.y else (decide (o.c.x = 0) && decide (o.c.y = 0))) := Lib.hid rfl
  have OW : Hid (OldB W W) := Lib.hid (Below.refl _ _)
  unfold roA at RF ⊢
  have hW2 := hW
  rw [v1, v2] at hW2 RF BX ⊢
  clear hW r1 r2 v1 v2 hs HO HSZ HB HZ hx
  generalize At.validO o.c = R at *
  generalize ratB o.c = ra at *
  generalize rrefsB o.c = rf at *
  generalize At.onB o.c.x o.c.y = on at *
  generalize At.tagsB o.c.tags = tg at *
  generalize At.nameB o.c.id = nm at *
  have hx := (BX.out W OW.out).2
  have x0 := cell_of_row W w.heap.size 0 _ _ _ hx
  have x1 := cell_of_row W w.heap.size 1 _ _ _ hx
  have x2 := cell_of_row W w.heap.size 2 _ _ _ hx
  have x3 := cell_of_row W w.heap.size 3 _ _ _ hx
  simp at x0 x1 x2 x3
  clear hx
  go_enter Tryz.func67, Tryz.ntmps67
  go_upto_region 1 with fail
  rw [← hW2]
  clear hW2
  go_wp2_with fail
  refine (ON.out _).mono ?_
  rintro e u1 ⟨rfl, b1⟩
  have O1 : Hid (OldB W u1) := Lib.hid b1
  clear b1 x0 x1 x2 x3
  have hx := (BX.out u1 O1.out).2
  have x0 := cell_of_row u1 w.heap.size 0 _ _ _ hx
  have x1 := cell_of_row u1 w.heap.size 1 _ _ _ hx
  have x2 := cell_of_row u1 w.heap.size 2 _ _ _ hx
  have x3 := cell_of_row u1 w.heap.size 3 _ _ _ hx
  simp at x0 x1 x2 x3
  clear hx
  by_cases k1 : o.c.kind = 1
  · have e1 : (o.c.kind == 1) = true := by rw [k1]; rfl
    have e2 : (o.c.kind != 1) = false := by rw [k1]; rfl
    have RA2 : Hid (ra = on) := Lib.hid (by rw [RA.out, if_pos k1])
    clear k1 RA
    go_wp2_with fail
    refine (NM.out _).mono ?_
    rintro e v1 ⟨rfl, rfl⟩
    cases nm with
    | false =>
      have RT : Hid (R = false) := Lib.hid (by rw [VR.out]; simp)
      go_wp2_with fail
      go_ret
      exact ⟨by rw [RT.out]; rfl, (BX.out _ O1.out).1⟩
    | true =>
      go_wp2_with fail
      refine (WD.out _).mono ?_
      rintro e u2 ⟨rfl, b2⟩
      have O2 : Hid (OldB W u2) := Lib.hid (OldB.then O1.out b2)
      clear b2 x0 x1 x2 x3
      cases hk : At.kindB o.c.kind with
      | false =>
        rw [hk] at KW
        have RT : Hid (R = false) := Lib.hid (by rw [VR.out, hk]; rfl)
        go_wp2_with fail
        go_ret
        exact ⟨by rw [RT.out]; rfl, (BX.out _ O2.out).1⟩
      | true =>
        rw [hk] at KW
        cases on with
        | false =>
          have RT : Hid (R = false) := Lib.hid (by rw [VR.out, RA2.out]; simp)
          go_wp2_with fail
          go_ret
          exact ⟨by rw [RT.out]; rfl, (BX.out _ O2.out).1⟩
        | true =>
          have hx := (BX.out u2 O2.out).2
          have x0 := cell_of_row u2 w.heap.size 0 _ _ _ hx
          have x1 := cell_of_row u2 w.heap.size 1 _ _ _ hx
          have x2 := cell_of_row u2 w.heap.size 2 _ _ _ hx
          have x3 := cell_of_row u2 w.heap.size 3 _ _ _ hx
          have x4 := cell_of_row u2 w.heap.size 4 _ _ _ hx
          have x5 := cell_of_row u2 w.heap.size 5 _ _ _ hx
          simp at x0 x1 x2 x3 x4 x5
          clear hx
          go_wp2_with fail
          refine (TG.out _ O2.out).mono ?_
          rintro e u3 ⟨rfl, b3⟩
          have O3 : Hid (OldB W u3) := Lib.hid (OldB.then O2.out b3)
          clear b3 x0 x1 x2 x3 x4 x5
          cases tg with
          | false =>
            have RT : Hid (R = false) := Lib.hid (by rw [VR.out]; simp)
            go_wp2_with fail
            go_ret
            exact ⟨by rw [RT.out]; rfl, (BX.out _ O3.out).1⟩
          | true =>
            have hx := (BX.out u3 O3.out).2
            have x0 := cell_of_row u3 w.heap.size 0 _ _ _ hx
            have x1 := cell_of_row u3 w.heap.size 1 _ _ _ hx
            have x2 := cell_of_row u3 w.heap.size 2 _ _ _ hx
            have x3 := cell_of_row u3 w.heap.size 3 _ _ _ hx
            have x4 := cell_of_row u3 w.heap.size 4 _ _ _ hx
            have x5 := cell_of_row u3 w.heap.size 5 _ _ _ hx
            simp at x0 x1 x2 x3 x4 x5
            clear hx
            go_wp2_with fail
            refine (RF.out _ O3.out).mono ?_
            rintro e u4 ⟨rfl, b4⟩
            have O4 : Hid (OldB W u4) := Lib.hid (OldB.then O3.out b4)
            clear b4 x0 x1 x2 x3 x4 x5
            have RT : Hid (R = rf) := Lib.hid (by rw [VR.out, hk, RA2.out]; rfl)
            go_wp2_with fail
            go_ret
            exact ⟨by rw [RT.out]; rfl, (BX.out _ O4.out).1⟩
  · have e1 : (o.c.kind == 1) = false := by simpa using k1
    have e2 : (o.c.kind != 1) = true := by simpa using k1
    rw [if_neg k1] at RA
    clear k1
    by_cases qx : o.c.x = 0
    · have ex : (o.c.x == 0) = true := by rw [qx]; rfl
      by_cases qy : o.c.y = 0
      · have ey : (o.c.y == 0) = true := by rw [qy]; rfl
        have RA2 : Hid (ra = true) := Lib.hid (by rw [RA.out, decide_eq_true qx, decide_eq_true qy]; rfl)
        clear qx qy RA
        go_wp2_with fail
        refine (NM.out _).mono ?_
        rintro e v1 ⟨rfl, rfl⟩
        cases nm with
        | false =>
          have RT : Hid (R = false) := Lib.hid (by rw [VR.out]; simp)
          go_wp2_with fail
          go_ret
          exact ⟨by rw [RT.out]; rfl, (BX.out _ O1.out).1⟩
        | true =>
          go_wp2_with fail
          refine (WD.out _).mono ?_
          rintro e u2 ⟨rfl, b2⟩
          have O2 : Hid (OldB W u2) := Lib.hid (OldB.then O1.out b2)
          clear b2 x0 x1 x2 x3
          cases hk : At.kindB o.c.kind with
          | false =>
            rw [hk] at KW
            have RT : Hid (R = false) := Lib.hid (by rw [VR.out, hk]; rfl)
            go_wp2_with fail
            go_ret
            exact ⟨by rw [RT.out]; rfl, (BX.out _ O2.out).1⟩
          | true =>
            rw [hk] at KW
            have hx := (BX.out u2 O2.out).2
            have x0 := cell_of_row u2 w.heap.size 0 _ _ _ hx
            have x1 := cell_of_row u2 w.heap.size 1 _ _ _ hx
            have x2 := cell_of_row u2 w.heap.size 2 _ _ _ hx
            have x3 := cell_of_row u2 w.heap.size 3 _ _ _ hx
            have x4 := cell_of_row u2 w.heap.size 4 _ _ _ hx
            have x5 := cell_of_row u2 w.heap.size 5 _ _ _ hx
            simp at x0 x1 x2 x3 x4 x5
            clear hx
            go_wp2_with fail
            refine (TG.out _ O2.out).mono ?_
            rintro e u3 ⟨rfl, b3⟩
            have O3 : Hid (OldB W u3) := Lib.hid (OldB.then O2.out b3)
            clear b3 x0 x1 x2 x3 x4 x5
            cases tg with
            | false =>
              have RT : Hid (R = false) := Lib.hid (by rw [VR.out]; simp)
              go_wp2_with fail
              go_ret
              exact ⟨by rw [RT.out]; rfl, (BX.out _ O3.out).1⟩
            | true =>
              have hx := (BX.out u3 O3.out).2
              have x0 := cell_of_row u3 w.heap.size 0 _ _ _ hx
              have x1 := cell_of_row u3 w.heap.size 1 _ _ _ hx
              have x2 := cell_of_row u3 w.heap.size 2 _ _ _ hx
              have x3 := cell_of_row u3 w.heap.size 3 _ _ _ hx
              have x4 := cell_of_row u3 w.heap.size 4 _ _ _ hx
              have x5 := cell_of_row u3 w.heap.size 5 _ _ _ hx
              simp at x0 x1 x2 x3 x4 x5
              clear hx
              go_wp2_with fail
              refine (RF.out _ O3.out).mono ?_
              rintro e u4 ⟨rfl, b4⟩
              have O4 : Hid (OldB W u4) := Lib.hid (OldB.then O3.out b4)
              clear b4 x0 x1 x2 x3 x4 x5
              have RT : Hid (R = rf) := Lib.hid (by rw [VR.out, hk, RA2.out]; rfl)
              go_wp2_with fail
              go_ret
              exact ⟨by rw [RT.out]; rfl, (BX.out _ O4.out).1⟩
      · have ey : (o.c.y == 0) = false := by simpa using qy
        have RA2 : Hid (ra = false) := Lib.hid (by rw [RA.out, decide_eq_false qy, Bool.and_false])
        clear qx qy RA
        go_wp2_with fail
        refine (NM.out _).mono ?_
        rintro e v1 ⟨rfl, rfl⟩
        cases nm with
        | false =>
          have RT : Hid (R = false) := Lib.hid (by rw [VR.out]; simp)
          go_wp2_with fail
          go_ret
          exact ⟨by rw [RT.out]; rfl, (BX.out _ O1.out).1⟩
        | true =>
          go_wp2_with fail
          refine (WD.out _).mono ?_
          rintro e u2 ⟨rfl, b2⟩
          have O2 : Hid (OldB W u2) := Lib.hid (OldB.then O1.out b2)
          clear b2 x0 x1 x2 x3
          cases hk : At.kindB o.c.kind with
          | false =>
            rw [hk] at KW
            have RT : Hid (R = false) := Lib.hid (by rw [VR.out, hk]; rfl)
            go_wp2_with fail
            go_ret
            exact ⟨by rw [RT.out]; rfl, (BX.out _ O2.out).1⟩
          | true =>
            rw [hk] at KW
            have RT : Hid (R = false) := Lib.hid (by rw [VR.out, RA2.out]; simp)
            go_wp2_with fail
            go_ret
            exact ⟨by rw [RT.out]; rfl, (BX.out _ O2.out).1⟩
    · have ex : (o.c.x == 0) = false := by simpa using qx
      have RA2 : Hid (ra = false) := Lib.hid (by rw [RA.out, decide_eq_false qx]; rfl)
      clear qx RA
      go_wp2_with fail
      refine (NM.out _).mono ?_
      rintro e v1 ⟨rfl, rfl⟩
      cases nm with
      | false =>
        have RT : Hid (R = false) := Lib.hid (by rw [VR.out]; simp)
        go_wp2_with fail
        go_ret
        exact ⟨by rw [RT.out]; rfl, (BX.out _ O1.out).1⟩
      | true =>
        go_wp2_with fail
        refine (WD.out _).mono ?_
        rintro e u2 ⟨rfl, b2⟩
        have O2 : Hid (OldB W u2) := Lib.hid (OldB.then O1.out b2)
        clear b2 x0 x1 x2 x3
        cases hk : At.kindB o.c.kind with
        | false =>
          rw [hk] at KW
          have RT : Hid (R = false) := Lib.hid (by rw [VR.out, hk]; rfl)
          go_wp2_with fail
          go_ret
          exact ⟨by rw [RT.out]; rfl, (BX.out _ O2.out).1⟩
        | true =>
          rw [hk] at KW
          have RT : Hid (R = false) := Lib.hid (by rw [VR.out, RA2.out]; simp)
          go_wp2_with fail
          go_ret
          exact ⟨by rw [RT.out]; rfl, (BX.out _ O2.out).1⟩
end Go.Proofs.YtlejeelmlclnkaaGreatDoor
namespace Go.Proofs.YtlejeelmlclnkaaGreatDoor
open Go.RowKit

set_option maxHeartbeats 2000000 in
set_option maxRecDepth 100000 in
theorem r8dec_any : ∀ (N : Nat), N ≤ 9223372036854775807 → ∀ w : World, Calls Tryz.prog 64 #[.int .i64 (N : Int)] w fun e w' => e = .returned (.string (mkB (Dg.dec N))) ∧ w' = w := by
  intro N
  induction N using Nat.strongRecOn with
  | _ N ih =>
  intro hN w
  by_cases h10 : N < 10
  · have d1 : (N : Int) < 10 := by omega
    have DA := digit_at N h10
    have zz : (⟨#[48, 49, 50, 51, 52, 53, 54, 55, 56, 57]⟩ : ByteArray).size = 10 := rfl
    have x2 : ((N : Int) + 1).toNat = N + 1 := by omega
    have x3 : (N : Int) + 1 ≤ 10 := by omega
    have x4 : (N : Int) ≤ (N : Int) + 1 := by omega
    have k8 : IntKind.i64.wrap ((N : Int) + 1) = (N : Int) + 1 := IntWalk.i64_in _ (by omega)
    have DE : Hid (mkB (Dg.dec N) = ⟨#[Dg.decd N]⟩) := Lib.hid (by rw [Dg.dec_one h10]; rfl)
    clear ih h10
    go_enter Tryz.func64, Tryz.ntmps64
    go_wp2_with fail
    go_ret
    exact ⟨by rw [DE.out]; rfl, rfl⟩
  · have d1 : ¬ (N : Int) < 10 := by omega
    have IH1 := Lib.hid (fun u => ih (N / 10) (by omega) (by omega) u)
    have IH2 := Lib.hid (fun u => ih (N % 10) (by omega) (by omega) u)
    have m1 : (N : Int) / 10 = ((N / 10 : Nat) : Int) := by omega
    have m2 : (N : Int) % 10 = ((N % 10 : Nat) : Int) := by omega
    have m3 : (N : Int).tdiv 10 = ((N / 10 : Nat) : Int) := by rw [Int.tdiv_eq_ediv_of_nonneg (by omega)]; exact m1
    have m4 : (N : Int).tmod 10 = ((N % 10 : Nat) : Int) := by rw [Int.tmod_eq_emod_of_nonneg (by omega)]; exact m2
    have DE : Hid (mkB (Dg.dec N) = mkB (Dg.dec (N / 10) ++ Dg.dec (N % 10))) := Lib.hid (by rw [Dg.dec_more h10, Dg.dec_one (show N % 10 < 10 from Nat.mod_lt _ (by decide))])
    have z1 := dec_len 20 (N / 10) (by omega) (by decide)
    have z2 := dec_len 20 (N % 10) (by omega) (by decide)
    generalize hq : N / 10 = q at *
    generalize hr : N % 10 = r at *
    have w1 : IntKind.i64.wrap (q : Int) = (q : Int) := IntWalk.i64_in _ (by omega)
    have w2 : IntKind.i64.wrap (r : Int) = (r : Int) := IntWalk.i64_in _ (by omega)
    have l1 := mkB_len (Dg.dec q)
    have l2 := mkB_len (Dg.dec r)
    generalize Dg.dec q = a at *
    generalize Dg.dec r = b at *
    have a1 : ∀ W : World, (Op.stringOp .add (mkB a) (mkB b)).run Tryz.prog W = .ok (.string (mkB (a ++ b))) W := fun W => by
      rw [run_string_add_sum W _ _ (by rw [l1, l2]; omega)]
      exact congrArg (fun b => Result.ok (Value.string b) W) (mk_app a b)
    clear ih h10 hq hr z1 z2 m1 m2
    go_enter Tryz.func64, Tryz.ntmps64
    go_wp2_with fail
    refine (IH1.out _).mono ?_
    rintro e u1 ⟨rfl, rfl⟩
    go_wp2_with fail
    refine (IH2.out _).mono ?_
    rintro e u1 ⟨rfl, rfl⟩
    go_wp2_with fail
    go_ret
    exact ⟨by rw [DE.out]; rfl, rfl⟩

def StrsPost (w : World) (L : List Tx) (e : Ending) (w' : World) : Prop := ∃ A c, e = .returned (.slice A L.length c) ∧ Rd w' A (strsC L) ∧ Below w.heap.size w w'
set_option maxHeartbeats 8000000 in
set_option maxRecDepth 100000 in
theorem rfields_any (o : RO) (w : World) (h : ObIs w o) (hV : At.validO o.c = true) :
    Calls Tryz.prog 24 #[roA o] w (StrsPost w (fieldsL o.c)) := by
  obtain ⟨A1, c1, v1, r1⟩ := h.rs
  obtain ⟨A2, c2, v2, r2⟩ := h.ts
  obtain ⟨W, hW⟩ : ∃ W, W = w.alloc (.cells #[.string (mkB o.c.id), .int .i64 o.c.kind, .int .i64 o.c.x, .int .i64 o.c.y, .slice A1 o.c.refs.length c1, .slice A2 o.c.tags.length c2] 43) := ⟨_, rfl⟩
  have HX : W.heap[w.heap.size]? = some (.cells #[.string (mkB o.c.id), .int .i64 o.c.kind, .int .i64 o.c.x, .int .i64 o.c.y, .slice A1 o.c.refs.length c1, .slice A2 o.c.tags.length c2] 43 (0, 0)) := by rw [hW]; exact heap_alloc_new w _
  have BW : Hid (Below w.heap.size w W) := Lib.hid (by rw [hW]; exact (Below.refl _ _).alloc (Nat.le_refl _) _)
  have WZ : W.heap.size = w.heap.size + 1 := by rw [hW]; simp
  have CF : Hid (∀ u, Below W.heap.size W u → u.cell? ⟨w.heap.size, 0, none⟩ = some (.string (mkB o.c.id)) ∧ u.cell? ⟨w.heap.size, 1, none⟩ = some (.int .i64 o.c.kind) ∧ u.cell? ⟨w.heap.size, 2, none⟩ = some (.int .i64 o.c.x) ∧ u.cell? ⟨w.heap.size, 3, none⟩ = some (.int .i64 o.c.y) ∧ u.cell? ⟨w.heap.size, 4, none⟩ = some (.slice A1 o.c.refs.length c1) ∧ u.cell? ⟨w.heap.size, 5, none⟩ = some (.slice A2 o.c.tags.length c2)) := Lib.hid (fun u hu => by
    have h0 := (hu.block w.heap.size (by omega)).trans HX
    exact ⟨cell_of_row u _ 0 _ _ _ h0, cell_of_row u _ 1 _ _ _ h0, cell_of_row u _ 2 _ _ _ h0, cell_of_row u _ 3 _ _ _ h0, cell_of_row u _ 4 _ _ _ h0, cell_of_row u _ 5 _ _ _ h0⟩)
  have R1 := Lib.hid r1
  have R2 := Lib.hid r2
  unfold roA
  rw [v1, v2]
  have OWW : Hid (OldB W W) := Lib.hid (Below.refl _ _)
  have FS := Lib.hid (fields_sz hV)
  have FL : Hid (fieldsL o.c = [wordF o.c.kind, o.c.id, Dg.dec o.c.x.toNat, Dg.dec o.c.y.toNat, Dg.dec o.c.refs.length] ++ o.c.refs ++ tagsL o.c.tags) := Lib.hid rfl
  obtain ⟨p1, p2, p3, p4⟩ := valid_at hV
  obtain ⟨-, hr2, ht2, -, -⟩ := valid_parts hV
  obtain ⟨xn, hxn⟩ : ∃ xn : Nat, o.c.x = (xn : Int) := ⟨o.c.x.toNat, by omega⟩
  obtain ⟨yn, hyn⟩ : ∃ yn : Nat, o.c.y = (yn : Int) := ⟨o.c.y.toNat, by omega⟩
  rw [hxn, hyn] at FL CF hW
  rw [Int.toNat_natCast, Int.toNat_natCast] at FL
  obtain ⟨rn, hrn⟩ : ∃ rn, o.c.refs.length = rn := ⟨_, rfl⟩
  obtain ⟨tn, htn⟩ : ∃ tn, o.c.tags.length = tn := ⟨_, rfl⟩
  have RN := Lib.hid hrn
  have TN := Lib.hid htn
  simp only [hrn] at FL CF hr2 hW
  simp only [htn] at CF ht2 hW
  rw [hxn, hyn, hrn, htn]
  have K0 := fun u (hu : OldB W u) => (CF.out u hu).1
  have K1 := fun u (hu : OldB W u) => (CF.out u hu).2.1
  have K2 := fun u (hu : OldB W u) => (CF.out u hu).2.2.1
  have K3 := fun u (hu : OldB W u) => (CF.out u hu).2.2.2.1
  have K4 := fun u (hu : OldB W u) => (CF.out u hu).2.2.2.2.1
  have WD := Lib.hid (fun u => rrword_any o.c.kind u)
  have hx3 : xn ≤ 9223372036854775807 := by omega
  have hy3 : yn ≤ 9223372036854775807 := by omega
  have hr3 : rn ≤ 9223372036854775807 := by omega
  clear HX r1 r2 v1 v2 h p1 p2 p3 p4 hxn hyn hrn htn
  go_enter Tryz.func24, Tryz.ntmps24
  go_upto_region 1 with fail
  rw [← hW]
  clear hW
  (refine wp_region_noPanic ?_; refine wp_region_held_drew (S := (OldB W)) (by kernel_rfl) ?_ (fun hHeld => ?_); exact Below.drew (Below.refl _ _))
  (refine tkW 0 ?_; try simp only [gmS])
  (refine tkW 1 ?_; try simp only [gmS])
  (refine tkW 3 ?_; try simp only [gmS])
  (refine tkW 4 ?_; try simp only [gmS])
  (refine tkW 5 ?_; try simp only [gmS])
  (refine tkW 6 ?_; try simp only [gmS])
  (refine tkW 7 ?_; try simp only [gmS])
  (refine tkW 9 ?_; try simp only [gmS])
  (refine tkW 10 ?_; try simp only [gmS])
  (refine tkW 11 ?_; try simp only [gmS])
  (refine tkW 13 ?_; try simp only [gmS])
  (refine tkW 14 ?_; try simp only [gmS])
  (refine tkW 15 ?_; try simp only [gmS])
  (refine rdW 2 (fun K hK => ?_); go_simp)
  refine (WD.out _).mono ?_
  rintro e x1 ⟨rfl, b1⟩
  (refine hK.out _ _ (OldB.then hHeld b1) (fun hHeld2 => ?_); clear hK K hHeld; have hHeld := hHeld2; clear hHeld2; try simp only [gmS])
  (refine rdW 8 (fun K hK => ?_); go_simp)
  refine (r8dec_any xn hx3 _).mono ?_
  rintro e x2 ⟨rfl, rfl⟩
  (refine hK.out _ _ hHeld (fun hHeld2 => ?_); clear hK K hHeld; have hHeld := hHeld2; clear hHeld2; try simp only [gmS])
  (refine rdW 12 (fun K hK => ?_); go_simp)
  refine (r8dec_any yn hy3 _).mono ?_
  rintro e x3 ⟨rfl, rfl⟩
  (refine hK.out _ _ hHeld (fun hHeld2 => ?_); clear hK K hHeld; have hHeld := hHeld2; clear hHeld2; try simp only [gmS])
  (refine rdW 16 (fun K hK => ?_); go_simp)
  refine (r8dec_any rn hr3 _).mono ?_
  rintro e x4 ⟨rfl, rfl⟩
  (refine hK.out _ _ hHeld (fun hHeld2 => ?_); clear hK K hHeld; have hHeld := hHeld2; clear hHeld2; try simp only [gmS])
  (refine rdW 17 (fun K hK => ?_); go_simp)
  have hb5 := OldB.then hHeld ((Below.refl x4.heap.size x4).alloc (Nat.le_refl _) (.cells #[.string (mkB (wordF o.c.kind)), .string (mkB o.c.id), .string (mkB (Dg.dec xn)), .string (mkB (Dg.dec yn)), .string (mkB (Dg.dec rn))] 9))
  have OL := Lib.hid (World.ownsRow_lit (base := W.heap.size) (e := 9) (size := 1) x4 #[.string (mkB (wordF o.c.kind)), .string (mkB o.c.id), .string (mkB (Dg.dec xn)), .string (mkB (Dg.dec yn)), .string (mkB (Dg.dec rn))] 5 (Below.size hHeld) (by simp [maxLen]) rfl)
  (refine hK.out _ _ hb5 (fun hHeld2 => ?_); clear hK K hHeld; have hHeld := hHeld2; clear hHeld2; try simp only [gmS])
  (refine tkW 18 ?_; try simp only [gmS])
  have HH := Lib.hid hHeld
  (refine wpAnyH_done (by kernel_rfl) ?_ _; refine NoPanic.normal ?_)
  clear hHeld hb5 b1 WD K0 K1 K2 K3 K4
  have OW5 : Hid ((x4.alloc (.cells #[.string (mkB (wordF o.c.kind)), .string (mkB o.c.id), .string (mkB (Dg.dec xn)), .string (mkB (Dg.dec yn)), .string (mkB (Dg.dec rn))] 9)).ownsRow W.heap.size 9 1 (.slice (some ⟨x4.heap.size, 0, none⟩) 5 5) 5 (strsC [wordF o.c.kind, o.c.id, Dg.dec xn, Dg.dec yn, Dg.dec rn])) := Lib.hid OL.out
  obtain ⟨F5, hF5⟩ : ∃ F5, F5 = [wordF o.c.kind, o.c.id, Dg.dec xn, Dg.dec yn, Dg.dec rn] := ⟨_, rfl⟩
  rw [← hF5] at OW5 FL
  have F5L : Hid (F5.length = 5) := Lib.hid (by rw [hF5]; rfl)
  clear OL hF5
  generalize x4.alloc (.cells #[.string (mkB (wordF o.c.kind)), .string (mkB o.c.id), .string (mkB (Dg.dec xn)), .string (mkB (Dg.dec yn)), .string (mkB (Dg.dec rn))] 9) = x5 at *
  obtain ⟨k0, k1, k2, k3, k4, k5⟩ := CF.out x5 HH.out
  have HW5 := Lib.hid (BW.out.trans (Below.mono HH.out BW.out.size))
  have RF5 := Lib.hid (R1.out.below HW5.out)
  have LR : (strsC o.c.refs).length = rn * 1 := by rw [strsC_len, RN.out]; omega
  have z5 := HH.out.size
  go_upto_region 3 with (at_builtin; refine wpList_appRS rfl (.tmp 23) (.tmp 25) 40 rfl Tryz.underlying40 info_str rfl (by decide) W.heap.size _ 5 _ A1 rn c1 (strsC o.c.refs) (strs_one _) rfl rfl OW5.out RF5.out LR z5 (by omega) (by omega) ?_; intro v6 w6 hown6 hb6 hg6)
  have HB6 : Hid (Below W.heap.size W w6) := Lib.hid (Below.trans HH.out hb6)
  have OW6 : Hid (w6.ownsRow W.heap.size 9 1 v6 (5 + rn + 2 * 0) (strsC (F5 ++ o.c.refs ++ tagsL (o.c.tags.take 0)))) := Lib.hid (by
    rw [show tagsL (o.c.tags.take 0) = [] from rfl, List.append_nil, strsC_app]; exact hown6)
  clear hown6 hb6 hg6 k0 k1 k2 k3 k4 k5 OW5 RF5 HW5 HH z5
  have LEN : Hid (∀ k, k ≤ tn → (F5 ++ o.c.refs ++ tagsL (o.c.tags.take k)).length = 5 + rn + 2 * k) := Lib.hid (fun k hk => by
    rw [List.length_append, List.length_append, tagsL_len, List.length_take, F5L.out, RN.out, TN.out]; omega)
  go_wp2_with fail
  go_loopw [3, 4] (fun s3 s4 wr => ∃ k : Nat, k ≤ tn ∧ s4 = .int .i64 (k : Int) ∧ Hid (wr.ownsRow W.heap.size 9 1 s3 (5 + rn + 2 * k) (strsC (F5 ++ o.c.refs ++ tagsL (o.c.tags.take k)))) ∧ Hid (OldB W wr)) (fun _ i _ => tn - (intOf i).toNat)
  case atStart => exact ⟨0, Nat.zero_le _, rfl, OW6, HB6⟩
  case round =>
    clear OW6 HB6
    obtain ⟨k, hk, rfl, OW, BL⟩ := hrel
    have BL2 := Lib.hid (BW.out.trans (Below.mono BL.out BW.out.size))
    obtain ⟨k0, k1, k2, k3, k4, k5⟩ := CF.out wr BL.out
    clear k0 k1 k2 k3 k4
    by_cases hlt : k < tn
    · have hkl : k < o.c.tags.length := by rw [TN.out]; exact hlt
      have d1 : (k : Int) < (tn : Int) := by omega
      have d2 : (0 : Int) ≤ (k : Int) := by omega
      have k8 : IntKind.i64.wrap ((k : Int) + 1) = (k : Int) + 1 := IntWalk.i64_in _ (by omega)
      obtain ⟨b, off, rfl, hb, c0, c1⟩ := tags_at (R2.out.below BL2.out) hkl
      have C01 : ∀ u, OldB W u → u.cell? ⟨b, off + k * 2, none⟩ = some (.string (mkB o.c.tags[k].1)) ∧ u.cell? ⟨b, off + k * 2 + 1, none⟩ = some (.string (mkB o.c.tags[k].2)) := fun u hu => by
        obtain ⟨b', off', e', -, q0, q1⟩ := tags_at (R2.out.below (BW.out.trans (Below.mono hu BW.out.size))) hkl
        obtain ⟨rfl, rfl⟩ : b = b' ∧ off = off' := by injection e' with e'; injection e' with e1 e2; exact ⟨e1, e2⟩
        exact ⟨q0, q1⟩
      have K5 : ∀ u, OldB W u → u.cell? ⟨w.heap.size, 5, none⟩ = some (.slice (some ⟨b, off, none⟩) tn c2) := fun u hu => (CF.out u hu).2.2.2.2.2
      have TK : Hid (F5 ++ o.c.refs ++ tagsL (o.c.tags.take (k + 1)) = (F5 ++ o.c.refs ++ tagsL (o.c.tags.take k)) ++ [o.c.tags[k].1, o.c.tags[k].2]) := Lib.hid (by
        rw [List.take_succ_eq_append_getElem hkl]
        unfold tagsL
        rw [List.flatMap_append, ← List.append_assoc]; simp)
      generalize F5 ++ o.c.refs ++ tagsL (o.c.tags.take k) = LK at *
      generalize o.c.tags[k] = t at *
      obtain ⟨ta, tb⟩ := t
      dsimp only at C01 TK
      have C0 := fun u hu => (C01 u hu).1
      have C1 := fun u hu => (C01 u hu).2
      have bz := Below.size BL.out
      obtain ⟨A7, c7, hv7, -⟩ := own_sl OW.out
      subst hv7
      clear c0 c1 C01
      go_upto_region 6 with fail
      clear k5
      (refine wp_region_noPanic ?_; refine wp_region_held_drew (S := (OldB W)) (by kernel_rfl) ?_ (fun hHeld => ?_); exact Below.drew BL.out)
      (refine tkW 0 ?_; try simp only [gmS])
      (refine tkW 1 ?_; try simp only [gmS])
      (refine tkW 2 ?_; try simp only [gmS])
      (refine tkW 3 ?_; try simp only [gmS])
      (refine tkW 4 ?_; try simp only [gmS])
      (refine tkW 5 ?_; try simp only [gmS])
      (refine tkW 6 ?_; try simp only [gmS])
      (refine tkW 7 ?_; try simp only [gmS])
      (refine tkW 8 ?_; try simp only [gmS])
      (refine tkW 9 ?_; try simp only [gmS])
      (refine tkW 10 ?_; try simp only [gmS])
      (refine tkW 11 ?_; try simp only [gmS])
      (refine tkW 12 ?_; try simp only [gmS])
      (refine rdW 13 (fun K hK => ?_); go_simp)
      (refine hK.out _ _ (OldB.then hHeld ((Below.refl _ _).alloc (Nat.le_refl _) _)) (fun hHeld2 => ?_); clear hK K hHeld; have hHeld := hHeld2; clear hHeld2; try simp only [gmS])
      (refine rdW 14 (fun K hK => ?_))
      refine step_appB rfl (.tmp 34) (.tmp 47) 40 rfl Tryz.underlying40 info_str rfl (by decide) W.heap.size (.slice A7 (5 + rn + 2 * k) c7) (5 + rn + 2 * k) 2 (strsC LK) wr.drew #[.string (mkB ta), .string (mkB tb)] rfl (by intro y hy; simp at hy; rcases hy with rfl | rfl <;> rfl) rfl rfl rfl (own_same OW.out (fun g hg => rfl)) (by show W.heap.size ≤ wr.heap.size; exact bz) (by omega) (by omega) (by decide) ?_
      intro A6 c6 w6 hown6 hb6 hg6
      have D3 : Hid (OldB W w6) := Lib.hid (Below.trans (Below.drew BL.out) hb6)
      have O6 := Lib.hid hown6
      (refine hK.out _ _ D3.out (fun hHeld2 => ?_); clear hK K hHeld; have hHeld := hHeld2; clear hHeld2; try simp only [gmS])
      (refine tkW 15 ?_; try simp only [gmS])
      (refine wpAnyH_done (by kernel_rfl) ?_ _; refine NoPanic.normal ?_)
      clear hHeld hown6 hb6 hg6 OW K5 C0 C1
      go_wp2_with fail
      refine ⟨⟨k + 1, by omega, by go_num, ?_, D3⟩, by simp [intOf]; omega⟩
      rw [TK.out, strsC_app]
      exact O6
    · have d1 : ¬ (k : Int) < (tn : Int) := by omega
      have TT : Hid (strsC (F5 ++ o.c.refs ++ tagsL (o.c.tags.take k)) = strsC (fieldsL o.c)) := Lib.hid (by rw [FL.out, List.take_of_length_le (by rw [TN.out]; omega)])
      have NN : Hid (5 + rn + 2 * k = (fieldsL o.c).length) := Lib.hid (by
        rw [← LEN.out k hk, FL.out, List.take_of_length_le (by rw [TN.out]; omega)])
      rw [TT.out] at OW
      obtain ⟨A9, c9, hv9, hr9⟩ := own_sl OW.out
      subst hv9
      have R9 := Lib.hid hr9
      clear hr9 OW
      unfold StrsPost
      generalize fieldsL o.c = FF at *
      go_wp2_with fail
      go_ret
      exact ⟨A9, c9, by rw [NN.out]; rfl, R9.out, BL2.out⟩
end Go.Proofs.YtlejeelmlclnkaaGreatDoor
namespace Go.Proofs.YtlejeelmlclnkaaGreatDoor
open Go.RowKit

theorem bys_mkB (L : List Tx) : bys (L.map mkB) = L := by
  unfold bys
  rw [List.map_map]
  conv => rhs; rw [← List.map_id L]
  exact List.map_congr_left fun s _ => mkB_list s
theorem rlistT_any (A : Option Addr) (n c : Nat) (L : List Tx) (w : World) (hn : n = L.length) (hlen : L.length ≤ 300) (hs : ∀ s ∈ L, s.length ≤ 300) (h : Rd w A (strsC L)) :
    Calls Tryz.prog 76 #[.slice A n c] w fun e w' => e = .returned (.string (mkB (Dg.sumL (Dg.joined L)))) ∧ Below w.heap.size w w' := by
  have := rlist_any A n c (L.map mkB) w (by rw [List.length_map]; exact hn) (by rw [List.length_map]; exact hlen) (fun s hs' => by
    obtain ⟨t, ht, rfl⟩ := List.mem_map.1 hs'
    rw [mkB_len]; exact hs t ht) (by rw [List.map_map]; exact h)
  rw [bys_mkB] at this
  exact this
theorem joinedT_any (A : Option Addr) (n c : Nat) (L : List Tx) (w : World) (hn : n = L.length) (hlen : L.length ≤ 300) (hs : ∀ s ∈ L, s.length ≤ 300) (h : Rd w A (strsC L)) :
    Calls Tryz.prog 22 #[.slice A n c] w fun e w' => e = .returned (.string (mkB (Dg.joined L))) ∧ Below w.heap.size w w' := by
  have := joined_any A n c (L.map mkB) w (by rw [List.length_map]; exact hn) (by rw [List.length_map]; exact hlen) (fun s hs' => by
    obtain ⟨t, ht, rfl⟩ := List.mem_map.1 hs'
    rw [mkB_len]; exact hs t ht) (by rw [List.map_map]; exact h)
  rw [bys_mkB] at this
  exact this
theorem fields_len {o : At.Ob} (h : At.validO o = true) (hr : o.refs.length ≤ 100) : (fieldsL o).length ≤ 300 := by
  obtain ⟨-, -, h3, -, -⟩ := valid_parts h
  unfold fieldsL
  simp only [List.length_append, tagsL_len, List.length_cons, List.length_nil]
  omega
/-- what is small of an object -/
structure Sml (o : At.Ob) : Prop where
  refs : o.refs.length ≤ 100
set_option maxHeartbeats 4000000 in
set_option maxRecDepth 100000 in
theorem rdigest_any (o : RO) (w : World) (h : ObIs w o) (hs : ObSz o.c) (hm : Sml o.c) :
    Calls Tryz.prog 58 #[roA o] w fun e w' => e = .returned (.string (mkB (digestF o.c))) ∧ Below w.heap.size w w' := by
  have HO := Lib.hid h
  obtain ⟨A1, c1, v1, r1⟩ := h.rs
  obtain ⟨A2, c2, v2, r2⟩ := h.ts
  obtain ⟨W, hW⟩ : ∃ W, W = w.alloc (.cells #[.string (mkB o.c.id), .int .i64 o.c.kind, .int .i64 o.c.x, .int .i64 o.c.y, .slice A1 o.c.refs.length c1, .slice A2 o.c.tags.length c2] 43) := ⟨_, rfl⟩
  have HX : W.heap[w.heap.size]? = some (.cells #[.string (mkB o.c.id), .int .i64 o.c.kind, .int .i64 o.c.x, .int .i64 o.c.y, .slice A1 o.c.refs.length c1, .slice A2 o.c.tags.length c2] 43 (0, 0)) := by rw [hW]; exact heap_alloc_new w _
  have BW : Hid (Below w.heap.size w W) := Lib.hid (by rw [hW]; exact (Below.refl _ _).alloc (Nat.le_refl _) _)
  have WZ : W.heap.size = w.heap.size + 1 := by rw [hW]; simp
  have CF : Hid (∀ u, OldB W u → u.cell? ⟨w.heap.size, 0, none⟩ = some (.string (mkB o.c.id)) ∧ u.cell? ⟨w.heap.size, 1, none⟩ = some (.int .i64 o.c.kind) ∧ u.cell? ⟨w.heap.size, 2, none⟩ = some (.int .i64 o.c.x) ∧ u.cell? ⟨w.heap.size, 3, none⟩ = some (.int .i64 o.c.y) ∧ u.cell? ⟨w.heap.size, 4, none⟩ = some (.slice A1 o.c.refs.length c1) ∧ u.cell? ⟨w.heap.size, 5, none⟩ = some (.slice A2 o.c.tags.length c2)) := Lib.hid (fun u hu => by
    have h0 := (hu.block w.heap.size (by omega)).trans HX
    exact ⟨cell_of_row u _ 0 _ _ _ h0, cell_of_row u _ 1 _ _ _ h0, cell_of_row u _ 2 _ _ _ h0, cell_of_row u _ 3 _ _ _ h0, cell_of_row u _ 4 _ _ _ h0, cell_of_row u _ 5 _ _ _ h0⟩)
  have VD := Lib.hid (rvalid_any o W (HO.out.below BW.out) hs)
  have FD : Hid (At.validO o.c = true → ∀ u, OldB W u → Calls Tryz.prog 24 #[roA o] u (StrsPost u (fieldsL o.c))) := Lib.hid (fun hv u hu => rfields_any o u (HO.out.below (BW.out.trans (Below.mono hu BW.out.size))) hv)
  have FN : Hid (At.validO o.c = true → (fieldsL o.c).length ≤ 300 ∧ ∀ s ∈ fieldsL o.c, s.length ≤ 300) := Lib.hid (fun hv => ⟨fields_len hv hm.refs, (fields_sz hv).1⟩)
  have DD : Hid (digestF o.c = if At.validO o.c then Dg.sumL (Dg.joined (fieldsL o.c)) else []) := Lib.hid rfl
  have te := mkB_tl []
  have em : (ByteArray.mk #[]) = mkB [] := rfl
  have BXX : Hid (∀ u, OldB W u → Below w.heap.size w u) := Lib.hid (fun u hu => BW.out.trans (Below.mono hu BW.out.size))
  unfold roA at VD FD ⊢
  rw [v1, v2] at VD FD ⊢
  generalize digestF o.c = R at *
  obtain ⟨k0, k1, k2, k3, k4, k5⟩ := CF.out W (Below.refl _ _)
  clear HX r1 r2 hs v1 v2 h hm HO WZ BW
  go_enter Tryz.func58, Tryz.ntmps58
  go_upto_region 1 with fail
  rw [← hW]
  clear hW
  go_wp2_with fail
  refine VD.out.mono ?_
  rintro e u1 ⟨rfl, b1⟩
  have O1 : Hid (OldB W u1) := Lib.hid b1
  clear b1 VD k0 k1 k2 k3 k4 k5
  cases hV : At.validO o.c
  · have PE : Hid (R = []) := Lib.hid (by rw [DD.out, hV]; rfl)
    clear DD FD FN
    go_wp2_with fail
    go_ret
    exact ⟨by rw [PE.out]; rfl, BXX.out _ O1.out⟩
  · have PE : Hid (R = Dg.sumL (Dg.joined (fieldsL o.c))) := Lib.hid (by rw [DD.out, hV]; rfl)
    have FC := Lib.hid (FD.out hV u1 O1.out)
    have FNN := Lib.hid (FN.out hV)
    obtain ⟨k0, k1, k2, k3, k4, k5⟩ := CF.out u1 O1.out
    clear DD FD FN hV
    generalize fieldsL o.c = FF at *
    go_wp2_with fail
    refine FC.out.mono ?_
    rintro e u2 ⟨A9, c9, rfl, r9, b2⟩
    have O2 : Hid (OldB W u2) := Lib.hid (OldB.then O1.out b2)
    have LD := Lib.hid (rlistT_any A9 FF.length c9 FF u2 rfl FNN.out.1 FNN.out.2 r9)
    rw [← PE.out] at LD
    clear r9 b2 k0 k1 k2 k3 k4 k5 FC
    go_wp2_with fail
    refine LD.out.mono ?_
    rintro e u3 ⟨rfl, b3⟩
    have O3 : Hid (OldB W u3) := Lib.hid (OldB.then O2.out b3)
    clear b3 LD
    go_wp2_with fail
    go_ret
    exact ⟨rfl, BXX.out _ O3.out⟩
set_option maxHeartbeats 4000000 in
set_option maxRecDepth 100000 in
theorem rdigests_any (A : Option Addr) (n c : Nat) (l : List RO) (w : World) (hn : n = l.length) (hl3 : n ≤ 300) (h : Ms w A l) (hsm : ∀ r ∈ l, Sml r.c) :
    Calls Tryz.prog 21 #[.agg #[.slice A n c]] w (StrsPost w ((cts l).map digestF)) := by
  have HL3 := Lib.hid hl3
  have HM := Lib.hid h
  have HN := Lib.hid hn
  have HS := Lib.hid hsm
  obtain ⟨X, hX⟩ : ∃ X, X = w.alloc (.cells #[.slice A n c] 24) := ⟨_, rfl⟩
  have HB : Hid (Below w.heap.size w X) := Lib.hid (by rw [hX]; exact (Below.refl _ _).alloc (Nat.le_refl _) _)
  have X0 : Hid (X.heap[w.heap.size]? = some (.cells #[.slice A n c] 24 (0, 0))) := Lib.hid (by rw [hX]; exact heap_alloc_new w _)
  have XZ : X.heap.size = w.heap.size + 1 := by rw [hX]; simp
  have CK : Hid (∀ u, OldB X u → u.cell? ⟨w.heap.size, 0, none⟩ = some (.slice A n c) ∧ Below w.heap.size w u) := Lib.hid (fun u hu => by
    have := cell_of_row u w.heap.size 0 _ _ _ ((hu.block _ (by omega)).trans X0.out)
    exact ⟨by simpa using this, HB.out.trans (Below.mono hu HB.out.size)⟩)
  have ST : Hid (X.ownsRow X.heap.size 9 1 (.slice none 0 0) ((cts (l.take 0)).map digestF).length (strsC ((cts (l.take 0)).map digestF))) := Lib.hid (World.ownsRow_nil _ _ _ _)
  have BX : Hid (OldB X X) := Lib.hid (Below.refl _ _)
  clear h hn hsm X0 hl3
  go_enter Tryz.func21, Tryz.ntmps21
  go_wp2_with fail
  try rw [← hX]
  clear hX
  go_loopw [3, 4] (fun s3 s4 wr => ∃ k : Nat, k ≤ n ∧ s4 = .int .i64 (k : Int) ∧ Hid (wr.ownsRow X.heap.size 9 1 s3 ((cts (l.take k)).map digestF).length (strsC ((cts (l.take k)).map digestF))) ∧ Hid (OldB X wr)) (fun _ i _ => n - (intOf i).toNat)
  case atStart => exact ⟨0, Nat.zero_le _, rfl, ST, BX⟩
  case round =>
    clear ST BX
    obtain ⟨k, hk, rfl, OW, BL⟩ := hrel
    have k0 := (CK.out wr BL.out).1
    have BLW := Lib.hid (CK.out wr BL.out).2
    by_cases hlt : k < n
    · have hkl : k < l.length := by rw [← HN.out]; exact hlt
      have d1 : (k : Int) < (n : Int) := by omega
      have d2 : (0 : Int) ≤ (k : Int) := by omega
      have k8 : IntKind.i64.wrap ((k : Int) + 1) = (k : Int) + 1 := IntWalk.i64_in _ (by have := HL3.out; omega)
      obtain ⟨b, off, rfl, hb, c0, c1, c2, c3, c4, c5⟩ := ros_at (HM.out.rd.below BLW.out) hkl
      have HO := HM.out.ob l[k] (List.getElem_mem hkl)
      have SZ := HM.out.sz l[k] (List.getElem_mem hkl)
      have SM := HS.out l[k] (List.getElem_mem hkl)
      have TK : Hid ((cts (l.take (k + 1))).map digestF = (cts (l.take k)).map digestF ++ [digestF l[k].c]) := Lib.hid (by
        rw [List.take_succ_eq_append_getElem hkl]; unfold cts; rw [List.map_append, List.map_append]; rfl)
      have LE : ((cts (l.take k)).map digestF).length ≤ k := by rw [List.length_map, cts_len, List.length_take]; omega
      generalize (cts (l.take k)).map digestF = L at *
      generalize l[k] = x at *
      obtain ⟨A1, q1, v1, r1⟩ := HO.rs
      obtain ⟨A2, q2, v2, -⟩ := HO.ts
      rw [v1] at c4
      rw [v2] at c5
      have CT : Hid (Calls Tryz.prog 58 #[roA x] wr fun e w' => e = .returned (.string (mkB (digestF x.c))) ∧ Below wr.heap.size wr w') := Lib.hid (rdigest_any x wr (HO.below BLW.out) SZ.1 SM)
      unfold roA at CT
      rw [v1, v2] at CT
      obtain ⟨A7, c7, hv7, -⟩ := own_sl OW.out
      subst hv7
      clear HO SZ v1 v2 r1 SM
      go_wp2_with fail
      refine CT.out.mono ?_
      rintro e w1 ⟨rfl, b1⟩
      have B2 : Hid (OldB X w1) := Lib.hid (OldB.then BL.out b1)
      have O1 := Lib.hid (own_same OW.out (fun g hg => b1.block g (OW.out.lt g hg).2))
      clear b1 CT c0 c1 c2 c3 c4 c5 OW
      have bz := Below.size B2.out
      have hl3 : n ≤ 300 := HL3.out
      go_wp2_with (at_builtin; refine wpList_appN rfl (.tmp 12) (.tmp 19) 40 rfl Tryz.underlying40 info_str rfl (by decide) X.heap.size _ L.length (strsC L) _ 1 (by decide) rfl (by intro y hy; simp at hy; rw [hy]; rfl) rfl rfl rfl O1.out (by omega) (by omega) (by omega) ?_; intro g8 c8 w8 ho8 hg8 hl8 hb8)
      refine ⟨⟨k + 1, by omega, by go_num, ?_, Lib.hid (Below.trans B2.out hb8)⟩, by simp [intOf]; omega⟩
      rw [TK.out, List.length_append, strsC_app]
      exact Lib.hid ho8
    · have d1 : ¬ (k : Int) < (n : Int) := by omega
      have TT : Hid (l.take k = l) := Lib.hid (List.take_of_length_le (by rw [← HN.out]; omega))
      rw [TT.out] at OW
      clear TT
      unfold StrsPost
      generalize (cts l).map digestF = LD at *
      obtain ⟨A5, c5, hv5, hr5⟩ := own_sl OW.out
      subst hv5
      have R5 := Lib.hid hr5
      clear hr5 OW
      go_wp2_with fail
      go_ret
      exact ⟨A5, c5, rfl, R5.out, BLW.out⟩
end Go.Proofs.YtlejeelmlclnkaaGreatDoor
namespace Go.Proofs.YtlejeelmlclnkaaGreatDoor
open Go.RowKit

theorem wordF_inj {a b : Int} (ha : At.kindB a = true) (hb : At.kindB b = true) (e : wordF a = wordF b) : a = b := by
  unfold At.kindB at ha hb
  simp only [Bool.and_eq_true, decide_eq_true_eq] at ha hb
  rcases (show a = 1 ∨ a = 2 ∨ a = 3 ∨ a = 4 ∨ a = 5 by omega) with rfl | rfl | rfl | rfl | rfl <;> rcases (show b = 1 ∨ b = 2 ∨ b = 3 ∨ b = 4 ∨ b = 5 by omega) with rfl | rfl | rfl | rfl | rfl <;> first | rfl | (exfalso; revert e; decide)
theorem tagsL_inj : ∀ {l m : List (Tx × Tx)}, tagsL l = tagsL m → l = m
  | [], [], _ => rfl
  | [], b :: m, e => by simp [tagsL] at e
  | a :: l, [], e => by simp [tagsL] at e
  | a :: l, b :: m, e => by
    simp only [tagsL, List.flatMap_cons, List.cons_append, List.nil_append, List.cons.injEq] at e
    obtain ⟨h1, h2, h3⟩ := e
    rw [tagsL_inj (l := l) (m := m) h3, Prod.ext h1 h2]
theorem fields_inj {a b : At.Ob} (ha : At.validO a = true) (hb : At.validO b = true) (e : fieldsL a = fieldsL b) : a = b := by
  obtain ⟨ax1, -, ay1, -⟩ := valid_at ha
  obtain ⟨bx1, -, by1, -⟩ := valid_at hb
  have ka : At.kindB a.kind = true := by unfold At.validO at ha; simp only [Bool.and_eq_true] at ha; exact ha.1.1.1.1.1.1
  have kb : At.kindB b.kind = true := by unfold At.validO at hb; simp only [Bool.and_eq_true] at hb; exact hb.1.1.1.1.1.1
  unfold fieldsL at e
  simp only [List.cons_append, List.nil_append, List.cons.injEq] at e
  obtain ⟨h1, h2, h3, h4, h5, h6⟩ := e
  have e1 := wordF_inj ka kb h1
  have e3 := Dg.dec_inj h3
  have e4 := Dg.dec_inj h4
  have e5 := Dg.dec_inj h5
  obtain ⟨h7, h8⟩ := List.append_inj h6 e5
  have e8 := tagsL_inj h8
  cases a; cases b
  dsimp only at *
  subst e1 h2 h7 e8
  have : (_ : Int) = _ := show Int.ofNat _ = Int.ofNat _ from congrArg Int.ofNat e3
  congr 1 <;> omega
theorem digest_isD (l : List At.Ob) : Dg.isD (digestM l) = At.validM l := by
  unfold digestM
  cases At.validM l
  · rfl
  · exact Dg.sumL_isD _
theorem digestF_valid {o : At.Ob} (h : At.validO o = true) : digestF o = Dg.sumL (Dg.joined (fieldsL o)) := by unfold digestF; rw [if_pos h]
theorem digests_find {l m : List At.Ob} (hl : ∀ o ∈ l, At.validO o = true) (hm : ∀ o ∈ m, At.validO o = true) (hne : l ≠ m) (e : l.map digestF = m.map digestF) :
    ∃ i, ∃ (h1 : i < l.length) (h2 : i < m.length), Dg.joined (fieldsL l[i]) ≠ Dg.joined (fieldsL m[i]) ∧ Dg.sumL (Dg.joined (fieldsL l[i])) = Dg.sumL (Dg.joined (fieldsL m[i])) := by
  have hlen : l.length = m.length := by simpa using congrArg List.length e
  refine Classical.byContradiction fun hno => hne (List.ext_getElem hlen fun i h1 h2 => ?_)
  refine Classical.byContradiction fun hi => hno ⟨i, h1, h2, fun h => hi ?_, ?_⟩
  · exact fields_inj (hl _ (List.getElem_mem h1)) (hm _ (List.getElem_mem h2)) (Dg.joined_inj h)
  · have := congrArg (fun x => x[i]?) e
    simp only [List.getElem?_map, List.getElem?_eq_getElem h1, List.getElem?_eq_getElem h2, Option.map_some, Option.some.injEq] at this
    rw [digestF_valid (hl _ (List.getElem_mem h1)), digestF_valid (hm _ (List.getElem_mem h2))] at this
    exact this
/-- maps of valid objects with one digest: the joined digests differ, or two objects' fields do -/
theorem digests_law {l m : List At.Ob} (hl : At.validM l = true) (hm : At.validM m = true) (hne : l ≠ m) (e : digestM l = digestM m) :
    (Dg.joined (l.map digestF) ≠ Dg.joined (m.map digestF) → Dg.sumL (Dg.joined (l.map digestF)) = Dg.sumL (Dg.joined (m.map digestF))) ∧
    (Dg.joined (l.map digestF) = Dg.joined (m.map digestF) → ∃ i, ∃ (h1 : i < l.length) (h2 : i < m.length), Dg.joined (fieldsL l[i]) ≠ Dg.joined (fieldsL m[i]) ∧ Dg.sumL (Dg.joined (fieldsL l[i])) = Dg.sumL (Dg.joined (fieldsL m[i]))) := by
  have h1 := (At.validM_iff.1 hl).2.1
  have h2 := (At.validM_iff.1 hm).2.1
  unfold digestM at e
  rw [if_pos hl, if_pos hm] at e
  exact ⟨fun _ => e, fun k => digests_find h1 h2 hne (Dg.joined_inj k)⟩
end Go.Proofs.YtlejeelmlclnkaaGreatDoor
