/- WALKS: slices.Chunk of a list of strings, two at a time. -/
import Derived.Test.YthceonkdmcidcaaDoorSB
import Derived.Test.YthceonkdmcidcaaDoorRF
import Derived.Shelf.Abstract
set_option linter.unusedSimpArgs false
set_option linter.unusedVariables false
namespace Go.Proofs.YthceonkdmcidcaaDoor
open Go.RowKit Go.Shelf
attribute [local go_sem] Oper.semAt_some

theorem chunk_any (A : Option Addr) (n c : Nat) (w : World) :
    Calls Tryd.prog 53 #[.slice A n c, .int .i64 2] w fun e w' => e = .returned (.func (.func 71) #[] #[.pointer (some ⟨w.heap.size, 0, none⟩), .pointer (some ⟨w.heap.size + 1, 0, none⟩)]) ∧ (w.alloc (.cells #[.slice A n c] 22)).alloc (.cells #[.int .i64 2] 3) = w' := by
  go_enter Tryd.func53, Tryd.ntmps53
  go_wp2_with fail
  go_ret
  exact ⟨rfl, rfl⟩
theorem drew_grown (W : World) (n : Nat) : W.grownBy (W.drewN n) none := ⟨rfl, rfl, rfl, Nat.le_refl _, fun _ _ _ => rfl⟩
abbrev Up (m : Nat) := { j : Nat // j < m }
theorem up_snoc {m k : Nat} {pre : List (Up m)} (h : pre.map (·.1) = List.range k) (hk : k < m) : (pre ++ [(⟨k, hk⟩ : Up m)]).map (·.1) = List.range (k + 1) := by
  rw [List.map_append, h, List.range_succ]; rfl
theorem up_len {m k : Nat} {pre : List (Up m)} (h : pre.map (·.1) = List.range k) : pre.length = k := by
  have := congrArg List.length h; simpa using this
set_option maxRecDepth 100000 in
set_option maxHeartbeats 2000000 in
theorem chunk1 (m c b off Bs Bn n₀ Bo l : Nat) (hm : 0 < m) (hmc : 2 * m ≤ c) (hc : c ≤ 9223372036854775807) (J Jx : List (Up m) → World → Prop)
    (hY : ∀ pre x W, J pre W → pre.length < m → YieldAt Fence.wide 2 Tryd.prog l #[.slice (some ⟨b, off + 2 * x.1, none⟩) 2 2] W fun e W' =>
      (e = .returned (.bool true) ∧ J (pre ++ [x]) W' ∧ Kx n₀ Bo W W') ∨ (e = .returned (.bool false) ∧ Jx (pre ++ [x]) W'))
    (W : World) (hJd : ∀ pre W n, J pre W → J pre (W.drewN n)) (hs : Bs < n₀) (hn : Bn < n₀) (hs' : Bs ≠ Bo) (hn' : Bn ≠ Bo) (hBs : W.cell? ⟨Bs, 0, none⟩ = some (.slice (some ⟨b, off, none⟩) (2 * m) c)) (hBn : W.cell? ⟨Bn, 0, none⟩ = some (.int .i64 2)) (h0 : J [] W) :
    CallsIn Fence.wide 3 Tryd.prog 71 #[.func (.yield l) #[] #[], .pointer (some ⟨Bs, 0, none⟩), .pointer (some ⟨Bn, 0, none⟩)] W fun e W' => (∃ v, e = .returned v) ∧
      ((∃ ys : List (Up m), ys.map (·.1) = List.range m ∧ J ys W') ∨ (∃ pre, True ∧ Jx pre W')) := by
  have HJ := Lib.hid hJd; clear hJd
  refine callsIn_of_wp Tryd.func71 rfl trivial ?_ rfl
  simp only [Tryd.ntmps71, List.size_toArray, List.length_cons, List.length_nil, Nat.reduceAdd, Nat.reduceSub, Array.replicate_succ, Array.replicate_zero, List.push_toArray, List.append_toArray, List.nil_append, List.cons_append]
  gi_wp2
  gi_loopw [4] (fun i wr => ∃ (k : Nat) (pre : List (Up m)), k ≤ m ∧ i = .int .i64 ((2 * k : Nat) : Int) ∧ Hid (pre.map (·.1) = List.range k) ∧ Hid (J pre wr) ∧ Kx n₀ Bo W wr)
    (fun i _ => 2 * m - (intOf i).toNat)
  case atStart => exact ⟨0, [], Nat.zero_le _, rfl, rfl, h0, Kx.refl _ _ _⟩
  case round =>
    obtain ⟨k, pre, hk, rfl, hp, hJs, hnx⟩ := hrel
    have e1 : wr.cell? ⟨Bs, 0, none⟩ = some (.slice (some ⟨b, off, none⟩) (2 * m) c) := (hnx.cell (p := ⟨Bs, 0, none⟩) hs hs').trans hBs
    have e2 : wr.cell? ⟨Bn, 0, none⟩ = some (.int .i64 2) := (hnx.cell (p := ⟨Bn, 0, none⟩) hn hn').trans hBn
    by_cases hlt : k < m
    · have i1 : (0 : Int) ≤ ((2 * k : Nat) : Int) := by omega
      have i2 : ((2 * k : Nat) : Int) < ((2 * m : Nat) : Int) := by omega
      have i3 : ((2 * k : Nat) : Int) ≤ (c : Int) := by omega
      have i4 : ((2 * k : Nat) : Int) ≤ ((2 * m : Nat) : Int) := by omega
      have hmin : min (2 : Int) ((2 * m - 2 * k : Nat) : Int) = 2 := by omega
      have i5 : ((2 * k : Nat) : Int) + 2 ≤ (c : Int) := by omega
      have w1 : IntKind.i64.wrap (((2 * k : Nat) : Int) + 2) = ((2 * k + 2 : Nat) : Int) := IntWalk.i64_in _ (by omega)
      gi_wp2
      refine wpIn_wide.2 ?_
      go_quiet (fail)
      obtain ⟨fn, tmps, assign, body, hy, hR⟩ := hY pre ⟨k, hlt⟩ _ (HJ.out pre wr nq hJs.out) (by rw [up_len hp.out]; exact hlt)
      dsimp only at hy
      gi_wp2
      refine hR.mono ?_
      have hnx2 := hnx.drewN nq
      rintro e W3 (⟨rfl, hJ3, hk3⟩ | ⟨rfl, hJx3⟩)
      · have e3 : W3.cell? ⟨Bn, 0, none⟩ = some (.int .i64 2) := (hk3.cell (p := ⟨Bn, 0, none⟩) hn hn').trans e2
        have HJ3 := Lib.hid hJ3; have HK3 := Lib.hid (hnx2.trans hk3)
        clear hJ3 hk3 hR hy
        gi_wp2
        go_roundw
        case rel => exact ⟨k + 1, pre ++ [⟨k, hlt⟩], hlt, by go_num, Lib.hid (up_snoc hp.out hlt), HJ3, HK3.out⟩
        case measure => simp [intOf]; omega
      · gi_wp2
        refine bodyPost_ret (results_none rfl _ _ _) rfl ?_
        exact ⟨⟨_, rfl⟩, .inr ⟨_, trivial, hJx3⟩⟩
    · obtain rfl : k = m := by omega
      gi_wp2
      go_end0
      exact ⟨⟨_, rfl⟩, .inl ⟨_, hp.out, hJs.out⟩⟩
theorem chunk_stops (m c b off Bs Bn n₀ Bo : Nat) (w : World) (hm : 0 < m) (hmc : 2 * m ≤ c) (hc : c ≤ 9223372036854775807) (hs : Bs < n₀) (hn : Bn < n₀) (hs' : Bs ≠ Bo) (hn' : Bn ≠ Bo) (hn₀ : n₀ ≤ w.heap.size)
    (hBs : w.cell? ⟨Bs, 0, none⟩ = some (.slice (some ⟨b, off, none⟩) (2 * m) c)) (hBn : w.cell? ⟨Bn, 0, none⟩ = some (.int .i64 2)) :
    SeqStopsK Fence.wide 3 Tryd.prog 71 #[.pointer (some ⟨Bs, 0, none⟩), .pointer (some ⟨Bn, 0, none⟩)] (fun x : Up m => #[.slice (some ⟨b, off + 2 * x.1, none⟩) 2 2]) (Kx n₀ Bo) (fun ys => ys.map (·.1) = List.range m) (fun _ => True) m w := fun l J Jx W hW hJ _ hY h0 =>
  chunk1 m c b off Bs Bn n₀ Bo l hm hmc hc J Jx hY W (fun pre W n h => hJ pre W _ none h (drew_grown W n) (fun r e => by cases e)) hs hn hs' hn'
    ((hW.cell (p := ⟨Bs, 0, none⟩) (Nat.lt_of_lt_of_le hs hn₀)).trans hBs) ((hW.cell (p := ⟨Bn, 0, none⟩) (Nat.lt_of_lt_of_le hn hn₀)).trans hBn) h0
end Go.Proofs.YthceonkdmcidcaaDoor
