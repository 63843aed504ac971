/- WALKS: seal.Sign (printed by gen_sg.py). -/
import Derived.Test.YthceonkdmcidcaaDoorSF
set_option linter.unusedSimpArgs false
set_option linter.unusedVariables false
namespace Go.Proofs.YthceonkdmcidcaaDoor
open Go.RowKit Go.Shelf
attribute [local go_sem] Oper.semAt_some
attribute [local go_sem ↓] Go.wp_at_zero Go.wp_at_succ

theorem wrap_pow2 {h : Nat} (hh : h ≤ 8) : IntKind.i64.wrap (2 ^ h) = ((2 ^ h : Nat) : Int) := by
  have e : ((2 : Int) ^ h) = ((2 ^ h : Nat) : Int) := by push_cast; rfl
  rw [e]
  have := pow_le8 hh
  generalize 2 ^ h = n at *
  exact IntWalk.i64_in _ (by omega)
theorem t24 : (9 : TypeId) ≠ 24 := by decide
theorem size_drewN (w : World) (n : Nat) : (w.drewN n).heap.size = w.heap.size := rfl
theorem drewN_heap (w : World) (n k : Nat) : (w.drewN n).heap[k]? = w.heap[k]? := rfl
def sigAt (s m : List UInt8) (i k : Nat) : List UInt8 := Sl.chainF ((Sl.digs m).getD k 0) (Sl.start s i k)
theorem sig_snoc (s m : List UInt8) (i : Nat) (pre : List (Up 18)) (x : Up 18) : sv ((pre ++ [x]).map fun y => sigAt s m i y.1) = sv (pre.map fun y => sigAt s m i y.1) ++ [.string (mkB (sigAt s m i x.1))] := by
  rw [List.map_append, sv_app, List.map_cons, List.map_nil, sv_one]
theorem sig_all (s m : List UInt8) (i : Nat) {pre : List (Up 18)} (h : pre.map (·.1) = List.range 18) : (pre.map fun y => sigAt s m i y.1) = Sl.sigF s i m := by
  unfold Sl.sigF
  rw [← h]
  simp only [List.map_map, Function.comp_def, sigAt]
def SgI (w w1 : World) (B : Nat) (s m : List UInt8) (i : Nat) (pre : List (Up 18)) (W : World) : Prop :=
  (∃ v, W.heap[B + 3]? = some (.cells #[.int .i64 i, v, .slice none 0 0] 24 (0, 0)) ∧ W.ownsRow (B + 5) 9 1 v pre.length (sv (pre.map fun y => sigAt s m i y.1))) ∧ Kx (B + 5) (B + 3) w1 W ∧ Below B w W ∧ B + 5 ≤ W.heap.size
theorem kx_grown {n₀ Bo B' : Nat} {A X Y : World} {row : Option Nat} (h : Kx n₀ Bo A X) (hA : n₀ ≤ A.heap.size) (hg : X.grownBy Y row) (hB : n₀ ≤ B') (hrow : ∀ r, row = some r → B' ≤ r) : Kx n₀ Bo A Y :=
  ⟨Nat.le_trans h.1 hg.size, fun k hk hne => (hg.block k (by have := h.1; omega) (fun e => by have := hrow k e.symm; omega)).trans (h.2 k hk hne)⟩
theorem sgI_own (w w1 : World) (B : Nat) (s m : List UInt8) (i B' : Nat) (hB : B = w.heap.size) (hw1 : B + 5 ≤ w1.heap.size) (hB' : B + 5 ≤ B') : OwnFrom B' (SgI w w1 B s m i) := by
  rintro t X Y row ⟨⟨v, hv, hr⟩, hk, hb, hz⟩ hg hrow
  exact ⟨⟨v, blk_keptR hv hg (fun r e => (hrow r e).2), own_keptR hr hg (fun r e => (hrow r e).2)⟩, kx_grown hk hw1 hg hB' (fun r e => (hrow r e).1), hb.grown hg (by have := hb.size; omega) (fun k e => by have := (hrow k e).1; omega), Nat.le_trans hz hg.size⟩
theorem start_len (s : List UInt8) (i k : Nat) : (mkB (Sl.start s i k)).size < 9223372036854775807 := by
  rw [mkB_size, show (Sl.start s i k).length = 16 from isD_len (Dg.sumL_isD _)]; decide
theorem sib_xor {j : Nat} (h : j < 256) : bits .xor .i64 (j : Int) 1 = ((Sl.sib j : Nat) : Int) := by
  have key : ∀ j : Fin 256, bits .xor .i64 (j.val : Int) 1 = ((Sl.sib j.val : Nat) : Int) := by decide +kernel
  exact key ⟨j, h⟩
theorem sib_lt {j k : Nat} (h : j < 2 ^ (k + 1)) : Sl.sib j < 2 ^ (k + 1) := by
  rw [pow_two] at *; unfold Sl.sib; split <;> omega
/-- a list of strings that lies, away from one block -/
def RdX (w : World) (A : Option Addr) (xs : List Value) (Bo : Nat) : Prop := 0 < xs.length → ∃ b off, A = some ⟨b, off, none⟩ ∧ b < w.heap.size ∧ b ≠ Bo ∧ ∀ i u, xs[i]? = some u → w.cell? ⟨b, off + i, none⟩ = some u
theorem RdX.rd {w : World} {A : Option Addr} {xs : List Value} {Bo : Nat} (h : RdX w A xs Bo) : Rd w A xs := fun hp => by
  obtain ⟨b, off, e, hb, _, hc⟩ := h hp; exact ⟨b, off, e, hb, hc⟩
theorem RdX.kx {w w' : World} {A : Option Addr} {xs : List Value} {Bo N : Nat} (h : RdX w A xs Bo) (hk : Kx N Bo w w') (hN : w.heap.size ≤ N) : RdX w' A xs Bo := fun hp => by
  obtain ⟨b, off, e, hb, hne, hc⟩ := h hp
  exact ⟨b, off, e, Nat.lt_of_lt_of_le hb hk.1, hne, fun i u hu => (hk.cell (p := ⟨b, off + i, none⟩) (by show b < N; omega) hne).trans (hc i u hu)⟩
theorem rdx_own {w : World} {base n c Bo : Nat} {e t : TypeId} {A : Option Addr} {xs : List Value} {cs : Array Value} (h : w.ownsRow base e 1 (.slice A n c) n xs) (hB : w.heap[Bo]? = some (.cells cs t (0, 0))) (hte : e ≠ t) : RdX w A xs Bo := fun hp => by
  obtain ⟨b, off, e1, hb, hc⟩ := Rd.of_own h hp
  refine ⟨b, off, e1, hb, ?_, hc⟩
  rcases h.2 with ⟨h1, h2⟩ | ⟨g, cap, cur, h1, _, hg, _⟩
  · have := h.1; omega
  · injection h1 with h3 _ _
    rw [e1] at h3
    injection h3 with h3
    injection h3 with h3 _ _
    intro e2
    rw [← h3, e2, hB] at hg
    cases hg; exact hte rfl
theorem cells3 {w : World} {g : Nat} {a b c : Value} {t : TypeId} (h : w.heap[g]? = some (.cells #[a, b, c] t (0, 0))) : w.cell? ⟨g, 0, none⟩ = some a ∧ w.cell? ⟨g, 1, none⟩ = some b ∧ w.cell? ⟨g, 2, none⟩ = some c :=
  ⟨cell_of_row w g 0 _ _ _ h, cell_of_row w g 1 _ _ _ h, cell_of_row w g 2 _ _ _ h⟩
theorem not_blk {w : World} {b o g : Nat} {s : ByteArray} {cs : Array Value} {t : TypeId} (hc : w.cell? ⟨b, o, none⟩ = some (.string s)) (hB : w.heap[g]? = some (.cells cs t (0, 0))) (hcs : ∀ (k : Nat) (s : ByteArray), cs[k]? ≠ some (.string s)) : b ≠ g := by
  intro e
  subst e
  rw [cell_of_row w b o _ _ _ hB] at hc
  exact hcs o s hc
theorem not_def {w : World} {b o g : Nat} {v : Value} {d : Option (List Deferred)} (hc : w.cell? ⟨b, o, none⟩ = some v) (hB : w.heap[g]? = some (.deferred d)) : b ≠ g := by
  intro e; subst e; simp [World.cell?, hB] at hc
theorem no_str3 (i : Int) (A1 A2 : Option Addr) (n1 n2 c1 c2 : Nat) : ∀ (k : Nat) (s : ByteArray), (#[Value.int .i64 i, .slice A1 n1 c1, .slice A2 n2 c2])[k]? ≠ some (.string s) := by
  intro k s
  match k with
  | 0 => simp
  | 1 => simp
  | 2 => simp
  | k + 3 => simp
/-- behind the return: the result's cells are written, the rounds' block is shut -/
def EndW (wr : World) (Bq D : Nat) (v0 v1 v2 : Value) : World := (((wr.setCell ⟨Bq, 0, none⟩ v0).setCell ⟨Bq, 1, none⟩ v1).setCell ⟨Bq, 2, none⟩ v2).putObj D (.deferred none)
theorem endW_other {wr : World} {Bq D k : Nat} {v0 v1 v2 : Value} (h1 : k ≠ Bq) (h2 : k ≠ D) : (EndW wr Bq D v0 v1 v2).heap[k]? = wr.heap[k]? :=
  (World.putObj_heap_other h2).trans ((Below.heap_setCell _ _ _ _ (by exact h1)).trans ((Below.heap_setCell _ _ _ _ (by exact h1)).trans (Below.heap_setCell _ _ _ _ (by exact h1))))
theorem endW_size {wr : World} {Bq D : Nat} {v0 v1 v2 : Value} : wr.heap.size ≤ (EndW wr Bq D v0 v1 v2).heap.size := by
  unfold EndW
  rw [World.putObj_size]
  exact Nat.le_trans (Nat.le_trans (KeepsWalks.setCell wr ⟨Bq, 0, none⟩ v0).size (KeepsWalks.setCell _ ⟨Bq, 1, none⟩ v1).size) (KeepsWalks.setCell _ ⟨Bq, 2, none⟩ v2).size
theorem endW_rd {wr : World} {Bq D : Nat} {v0 v1 v2 : Value} {A : Option Addr} {L : List (List UInt8)} {cs : Array Value} {t : TypeId} (h : Rd wr A (sv L)) (hB : wr.heap[Bq]? = some (.cells cs t (0, 0))) (hcs : ∀ (k : Nat) (s : ByteArray), cs[k]? ≠ some (.string s)) (hD : wr.heap[D]? = some (.deferred (some []))) : Rd (EndW wr Bq D v0 v1 v2) A (sv L) := by
  intro hp
  obtain ⟨b, off, e, hb, hc⟩ := h hp
  refine ⟨b, off, e, Nat.lt_of_lt_of_le hb endW_size, fun i u hu => ?_⟩
  have hc' := hc i u hu
  obtain ⟨s, rfl⟩ : ∃ s, u = .string s := by
    have hm := List.mem_of_getElem? hu
    unfold sv at hm
    obtain ⟨s, _, hs⟩ := List.mem_map.1 hm
    exact ⟨s, hs.symm⟩
  exact (World.cell?_of_block (a := ⟨b, off + i, none⟩) (endW_other (not_blk hc' hB hcs) (not_def hc' hD))).trans hc'
theorem endW_cells {wr : World} {Bq D : Nat} {v0 v1 v2 a b c : Value} {t : TypeId} (hB : wr.heap[Bq]? = some (.cells #[a, b, c] t (0, 0))) (hD : D ≠ Bq) : (EndW wr Bq D v0 v1 v2).heap[Bq]? = some (.cells #[v0, v1, v2] t (0, 0)) := by
  unfold EndW
  refine (World.putObj_heap_other (Ne.symm hD)).trans ?_
  have h0 := row_put (k := 0) hB v0
  have h1 := row_put (k := 1) h0 v1
  have h2 := row_put (k := 2) h1 v2
  exact h2
theorem endW_below {w wr : World} {B Bq D : Nat} {v0 v1 v2 : Value} (hb : Below B w wr) (hw : B = w.heap.size) (hq : B ≤ Bq) (hD : B ≤ D) : Below B w (EndW wr Bq D v0 v1 v2) := by
  have h1 := ((hb.setCell (p := ⟨Bq, 0, none⟩) hq v0).setCell (p := ⟨Bq, 1, none⟩) hq v1).setCell (p := ⟨Bq, 2, none⟩) hq v2
  exact h1.grown (grownBy_putObj' _ D (.deferred none)) (by have := h1.size; omega) (fun k e => by cases e; exact hD)
def SignPost (w : World) (i : Nat) (S P : List (List UInt8)) (e : Ending) (w' : World) : Prop :=
  ∃ A1 c1 A2 c2, e = .returned (.tuple #[.agg #[.int .i64 i, .slice A1 S.length c1, .slice A2 P.length c2], .int .i64 0]) ∧ S.length ≤ c1 ∧ c1 ≤ maxLen ∧ P.length ≤ c2 ∧ c2 ≤ maxLen ∧ Rd w' A1 (sv S) ∧ Rd w' A2 (sv P) ∧ Below w.heap.size w w'
/-- the loop over the levels of the tree -/
def LvR (w w2 : World) (B : Nat) (i h : Nat) (PS : List (List UInt8)) (v1 : Value) (l jv : Value) (wr : World) : Prop :=
  ∃ (k : Nat) (L : List (List UInt8)) (A : Option Addr) (c j : Nat) (P : List (List UInt8)) (vp : Value), l = .slice A L.length c ∧ jv = .int .i64 j ∧ k ≤ h ∧ L.length = 2 ^ k ∧ L.length ≤ c ∧ c ≤ maxLen ∧ (∀ t ∈ L, t.length ≤ 300) ∧ j < 2 ^ k ∧ P ++ Sl.path k L j = PS ∧
    Rd wr A (sv L) ∧ wr.heap[B + 3]? = some (.cells #[.int .i64 i, v1, vp] 24 (0, 0)) ∧ wr.ownsRow w2.heap.size 9 1 vp P.length (sv P) ∧ (∀ g, vp.ownBlock = some g → ∀ p, A = some p → g ≠ p.block) ∧ (∀ p, A = some p → p.block ≠ B + 3) ∧ Kx w2.heap.size (B + 3) w2 wr ∧ Below B w wr ∧ w2.heap.size ≤ wr.heap.size
set_option maxRecDepth 100000 in
set_option maxHeartbeats 8000000 in
theorem sign_any (s m : ByteArray) (h i : Nat) (w : World) (hs : s.size ≤ 300) (hms : m.size ≤ 1000) (hh : h ≤ 8) (hi : i < 2 ^ h) (ht : Tab w) :
    Calls Tryd.prog 15 #[.string s, .int .i64 h, .int .i64 i, .string m] w (SignPost w i (Sl.sigF s.data.toList i m.data.toList) (Sl.pathS s.data.toList h i)) := by
  have HT := Lib.hid ht; clear ht
  have i0 : (0 : Int) ≤ (h : Int) := by omega
  have i4 : (h : Int) < 64 := by omega
  have PW := wrap_pow hh
  have PW2 := wrap_pow2 hh
  have P8 := pow_le8 hh
  obtain ⟨n, hn⟩ : ∃ n, 2 ^ h = n := ⟨_, rfl⟩
  rw [hn] at PW PW2 hi P8
  have d1 : decide ((h : Int) < 0) = false := by simp
  have d2 : decide ((8 : Int) < (h : Int)) = false := by simp; omega
  have d3 : decide ((i : Int) < 0) = false := by simp
  have d4 : decide ((n : Int) ≤ (i : Int)) = false := by simp; omega
  have d5 : decide (n ≤ i) = false := by simp; omega
  have i10 : i < 10000 := by omega
  have HN := Lib.hid hn; clear hn
  obtain ⟨B, hB⟩ : ∃ B, w.heap.size = B := ⟨_, rfl⟩
  have HW : Hid (w.heap.size = B) := Lib.hid hB
  (refine (callsIn_wide (n := 5)).1 ?_; refine callsIn_of_wp_marks Tryd.func15 rfl trivial ?_ rfl; simp only [Tryd.ntmps15, List.size_toArray, List.length_cons, List.length_nil, Nat.reduceAdd, Nat.reduceSub, Array.replicate_succ, Array.replicate_zero, List.push_toArray, List.append_toArray, List.nil_append, List.cons_append]; refine wpIn_wide.2 ?_)
  go_wp2_with fail
  go_quiet (fail)
  go_wp2_with fail
  refine (digits_make m _).mono ?_
  rintro e w1 ⟨rfl, hw1⟩
  have F0 : Hid (w1.heap[B]? = some (.cells #[.string s] 9 (0, 0))) := Lib.hid (by rw [← hw1, ← hB]; (repeat (first | with_reducible refine (drewN_heap _ _ _).trans ?_ | ((with_reducible refine alloc_new' _ _ _ ?hn); case hn => (simp; done)) | ((with_reducible refine (alloc_old _ _ ?ho).trans ?_); case ho => (first | (simp; done) | (simp; omega))))))
  have F1 : Hid (w1.heap[B + 1]? = some (.cells #[.int .i64 i] 3 (0, 0))) := Lib.hid (by rw [← hw1, ← hB]; (repeat (first | with_reducible refine (drewN_heap _ _ _).trans ?_ | ((with_reducible refine alloc_new' _ _ _ ?hn); case hn => (simp; done)) | ((with_reducible refine (alloc_old _ _ ?ho).trans ?_); case ho => (first | (simp; done) | (simp; omega))))))
  have F2 : Hid (w1.heap[B + 2]? = some (.cells #[.int .i64 0, .slice none 0 0, .slice none 0 0] 24 (0, 0))) := Lib.hid (by rw [← hw1, ← hB]; (repeat (first | with_reducible refine (drewN_heap _ _ _).trans ?_ | ((with_reducible refine alloc_new' _ _ _ ?hn); case hn => (simp; done)) | ((with_reducible refine (alloc_old _ _ ?ho).trans ?_); case ho => (first | (simp; done) | (simp; omega))))))
  have F3 : Hid (w1.heap[B + 3]? = some (.cells #[.int .i64 i, .slice none 0 0, .slice none 0 0] 24 (0, 0))) := Lib.hid (by rw [← hw1, ← hB]; (repeat (first | with_reducible refine (drewN_heap _ _ _).trans ?_ | ((with_reducible refine alloc_new' _ _ _ ?hn); case hn => (simp; done)) | ((with_reducible refine (alloc_old _ _ ?ho).trans ?_); case ho => (first | (simp; done) | (simp; omega))))))
  have F4 : Hid (w1.heap[B + 4]? = some (.cells #[.string m] 9 (0, 0))) := Lib.hid (by rw [← hw1, ← hB]; (repeat (first | with_reducible refine (drewN_heap _ _ _).trans ?_ | ((with_reducible refine alloc_new' _ _ _ ?hn); case hn => (simp; done)) | ((with_reducible refine (alloc_old _ _ ?ho).trans ?_); case ho => (first | (simp; done) | (simp; omega))))))
  have z1 : w1.heap.size = B + 5 := by rw [← hw1, ← hB]; simp
  have bel1 : Hid (Below B w w1) := Lib.hid (by
    rw [← hw1, ← hB]
    exact ((below_drewN ((((Below.refl _ _).alloc (Nat.le_refl _) _).alloc (by simp) _).alloc (by simp; omega) _) _).alloc (by simp; omega) _).alloc (by simp; omega) _)
  clear hw1
  simp only [World.size_alloc, size_drewN, hB]
  clear hB d1 d2 d3 d4 d5
  go_wp2_with fail
  refine (wpIn_wide (n := 4)).1 ?_
  refine wpIn_rangeFunc_ownF (F := Fence.wide) rfl (by decide) (gf := 56) (lb := #[.pointer (some ⟨B + 1 + 1 + 1 + 1, 0, none⟩)]) rfl trivial (enters_of Tryd.func56 (by kernel_rfl) rfl)
    (digits_stops m (B + 1 + 1 + 1 + 1) w1 hms (by omega) (cell_of_row w1 (B + 4) 0 _ _ _ F4.out)) (fun _ _ => trivial) (fun _ _ _ _ _ _ _ _ => trivial) (Below.refl _ _) (fun _ => rfl)
    (SgI w w1 B s.data.toList m.data.toList i) (fun _ _ _ => False) (sgI_own w w1 B _ _ i _ HW.out.symm (by omega) (by omega)) (fun _ _ _ _ _ h _ _ => h)
    ⟨⟨_, F3.out, World.ownsRow_nil _ _ _ _⟩, Kx.refl _ _ _, bel1.out, by omega⟩
    (fun x => { tmps := #[.string s, .int .i64 h, .int .i64 i, .string m, .pointer (some ⟨B, 0, none⟩), undef, .pointer (some ⟨B + 1, 0, none⟩), undef, .pointer (some ⟨B + 1 + 1, 0, none⟩), .int .i64 0, .pointer (some ⟨B + 1 + 1 + 1, 0, none⟩), .int .i64 x.1, .int .i64 (((Sl.digs m.data.toList).getD x.1 0 : Nat) : Int), undef, undef, .int .i64 h, .bool false, .bool false, .int .i64 h, .bool false, .bool false, .bool false, .int .i64 i, .bool false, .bool false, .bool false, .int .i64 i, .int .i64 h, .int .i64 n, .bool false, .bool false, undef, .int .i64 i, .agg #[.int .i64 i, .slice none 0 0, .slice none 0 0], .string m, .func (.func 56) #[] #[.pointer (some ⟨B + 1 + 1 + 1 + 1, 0, none⟩)], .int .i64 x.1, .int .i64 (((Sl.digs m.data.toList).getD x.1 0 : Nat) : Int), undef, undef, undef, undef, undef, undef, undef, undef, undef, undef, undef, undef, undef, undef, undef, undef, undef, undef, undef, undef, undef, undef, undef, undef, undef, undef, undef, undef, undef, undef, undef, undef, undef], defers := [] }) ?assign ?body ?done ?stop
  case assign =>
    intro l x W K hK
    unfold encD
    gi_wp2
    exact hK
  case body =>
    rintro l pre x W ⟨⟨v, hF, hown⟩, hkx, hbel, hz⟩ hlen
    have hx18 := x.2
    have hd15 := Sl.digs_le m.data.toList x.1
    have SC : Hid (∀ u, Below B w u → Calls Tryd.prog 32 #[.string s, .int .i64 i, .int .i64 x.1] u fun e w' => e = .returned (.string (mkB (Sl.start s.data.toList i x.1))) ∧ Below u.heap.size u w') := Lib.hid (fun u hu => start_any s i x.1 u hs i10 (by omega) (HT.out.keep (HW.out ▸ hu)))
    have CC : Hid (∀ u, Calls Tryd.prog 31 #[.string (mkB (Sl.start s.data.toList i x.1)), .int .i64 (((Sl.digs m.data.toList).getD x.1 0 : Nat) : Int)] u fun e w' => e = .returned (.string (mkB (sigAt s.data.toList m.data.toList i x.1))) ∧ Below u.heap.size u w') := Lib.hid (fun u => by
      have := chain_any (mkB (Sl.start s.data.toList i x.1)) ((Sl.digs m.data.toList).getD x.1 0) _ u rfl (by omega) (start_len _ _ _)
      rw [mkB_list] at this
      exact this)
    have PS := Lib.hid (sig_snoc s.data.toList m.data.toList i pre x)
    generalize sigAt s.data.toList m.data.toList i x.1 = y at *
    generalize Sl.start s.data.toList i x.1 = st at *
    generalize (Sl.digs m.data.toList).getD x.1 0 = d at *
    have C0 : ∀ w', Kx (B + 5) (B + 3) w1 w' → w'.cell? ⟨B, 0, none⟩ = some (.string s) := fun w' h => (h.cell (p := ⟨B, 0, none⟩) (by show B < B + 5; omega) (by show B ≠ B + 3; omega)).trans (cell_of_row w1 B 0 _ _ _ F0.out)
    have C1 : ∀ w', Kx (B + 5) (B + 3) w1 w' → w'.cell? ⟨B + 1, 0, none⟩ = some (.int .i64 i) := fun w' h => (h.cell (p := ⟨B + 1, 0, none⟩) (by show B + 1 < B + 5; omega) (by show B + 1 ≠ B + 3; omega)).trans (cell_of_row w1 (B + 1) 0 _ _ _ F1.out)
    obtain ⟨A5, c5, rfl, -, -⟩ := own_form hown
    have HOWN := Lib.hid hown; have HF := Lib.hid hF
    have hBW : B ≤ W.heap.size := by omega
    have hc0 := (cells3 hF).2.1
    clear hown hF
    have hlen2 : pre.length < 1000 := by omega
    refine wpIn_block ?_
    have hbd : Below B w W.drew := hbel.drew
    (refine round_held (fun w' => Kx (B + 5) (B + 3) w1 w') (by kernel_rfl) (fun h => (by obtain ⟨_, _, h⟩ := h; exact h)) (by kernel_rfl) ?_ (fun hHeld => ?_); exact (hkx.drewN 1))
    (refine wpAnyH_take (i := 0) (oi := _) (v := ?_) rfl (by kernel_rfl) (by kernel_rfl) (by kernel_rfl) (fun _ _ _ h => h) (Or.inl ⟨?_, ?_⟩) (by assumption) ?_; rotate_left; (focus (first | rfl | (simp [Region.wanted, yielded]; done))); (focus (intro w hSw; (try dsimp only at hSw); go_simp; all_goals (with_reducible rfl))); try simp only [Act.put, List.getElem_toArray, List.getElem_cons_zero, List.getElem_cons_succ, List.setIfInBounds_toArray, List.set_cons_zero, List.set_cons_succ])
    (refine wpAnyH_take (i := 2) (oi := _) (v := ?_) rfl (by kernel_rfl) (by kernel_rfl) (by kernel_rfl) (fun _ _ _ h => h) (Or.inl ⟨?_, ?_⟩) (by assumption) ?_; rotate_left; (focus (first | rfl | (simp [Region.wanted, yielded]; done))); (focus (intro w hSw; (try dsimp only at hSw); go_simp; all_goals (with_reducible rfl))); try simp only [Act.put, List.getElem_toArray, List.getElem_cons_zero, List.getElem_cons_succ, List.setIfInBounds_toArray, List.set_cons_zero, List.set_cons_succ])
    (refine wpAnyH_take (i := 3) (oi := _) (v := ?_) rfl (by kernel_rfl) (by kernel_rfl) (by kernel_rfl) (fun _ _ _ h => h) (Or.inl ⟨?_, ?_⟩) (by assumption) ?_; rotate_left; (focus (first | rfl | (simp [Region.wanted, yielded]; done))); (focus (intro w hSw; (try dsimp only at hSw); go_simp; all_goals (with_reducible rfl))); try simp only [Act.put, List.getElem_toArray, List.getElem_cons_zero, List.getElem_cons_succ, List.setIfInBounds_toArray, List.set_cons_zero, List.set_cons_succ])
    (refine wpAnyH_take (i := 4) (oi := _) (v := ?_) rfl (by kernel_rfl) (by kernel_rfl) (by kernel_rfl) (fun _ _ _ h => h) (Or.inl ⟨?_, ?_⟩) (by assumption) ?_; rotate_left; (focus (first | rfl | (simp [Region.wanted, yielded]; done))); (focus (intro w hSw; (try dsimp only at hSw); go_simp; all_goals (with_reducible rfl))); try simp only [Act.put, List.getElem_toArray, List.getElem_cons_zero, List.getElem_cons_succ, List.setIfInBounds_toArray, List.set_cons_zero, List.set_cons_succ])
    (refine wpAnyH_take (i := 6) (oi := _) (v := ?_) rfl (by kernel_rfl) (by kernel_rfl) (by kernel_rfl) (fun _ _ _ h => h) (Or.inl ⟨?_, ?_⟩) (by assumption) ?_; rotate_left; (focus (first | rfl | (simp [Region.wanted, yielded]; done))); (focus (intro w hSw; (try dsimp only at hSw); go_simp; all_goals (with_reducible rfl))); try simp only [Act.put, List.getElem_toArray, List.getElem_cons_zero, List.getElem_cons_succ, List.setIfInBounds_toArray, List.set_cons_zero, List.set_cons_succ])
    (refine wpAnyH_ready (rs := [1, 5]) (by kernel_rfl) (by simp) ?_; refine AllReadyH.cons (o := _) rfl (fun K hK => ?_) (AllReadyH.cons (o := _) rfl (fun K hK => ?_) AllReadyH.nil))
    · go_simp
      (refine hK.out _ _ hHeld (fun hHeld2 => ?_); clear hK K hHeld; have hHeld := hHeld2; clear hHeld2; try simp only [Act.put, List.getElem_toArray, List.getElem_cons_zero, List.getElem_cons_succ, List.setIfInBounds_toArray, List.set_cons_zero, List.set_cons_succ])
      (refine wpAnyH_ready (rs := [5]) (by kernel_rfl) (by simp) ?_; refine AllReadyH.cons (o := _) rfl (fun K hK => ?_) AllReadyH.nil; go_simp)
      refine (SC.out _ hbd).mono ?_
      rintro e w2 ⟨rfl, hb2'⟩
      have hb2 := drew_below hb2'; clear hb2'
      have hBx2 := (hb2.block (B + 3) (lt_of_block HF.out)).trans HF.out
      have hc2 := (cells3 hBx2).2.1
      have hsz2 := hb2.size
      (refine hK.out _ _ (hkx.trans (Kx.of_below (hb2.mono hz))) (fun hHeld2 => ?_); clear hK K hHeld; have hHeld := hHeld2; clear hHeld2; try simp only [Act.put, List.getElem_toArray, List.getElem_cons_zero, List.getElem_cons_succ, List.setIfInBounds_toArray, List.set_cons_zero, List.set_cons_succ])
      (refine wpAnyH_ready (rs := [7]) (by kernel_rfl) (by simp) ?_; refine AllReadyH.cons (o := _) rfl (fun K hK => ?_) AllReadyH.nil; go_simp)
      refine (CC.out _).mono ?_
      rintro e w3 ⟨rfl, hb3'⟩
      have hb3 := hb2.trans (hb3'.mono hb2.size); clear hb3'
      have hBx3 := (hb3.block (B + 3) (lt_of_block HF.out)).trans HF.out
      have hc3 := (cells3 hBx3).2.1
      have hsz3 := hb3.size
      have hB3l := lt_of_block hBx3
      (refine hK.out _ _ (hkx.trans (Kx.of_below (hb3.mono hz))) (fun hHeld2 => ?_); clear hK K hHeld; have hHeld := hHeld2; clear hHeld2; try simp only [Act.put, List.getElem_toArray, List.getElem_cons_zero, List.getElem_cons_succ, List.setIfInBounds_toArray, List.set_cons_zero, List.set_cons_succ])
      (refine wpAnyH_ready (rs := [8]) (by kernel_rfl) (by simp) ?_; refine AllReadyH.cons (o := _) rfl (fun K hK => ?_) AllReadyH.nil; go_simp)
      (refine hK.out _ _ (Kx.trans hHeld (Kx.of_below ((Below.refl _ w3).alloc (by omega) _))) (fun hHeld2 => ?_); clear hK K hHeld; have hHeld := hHeld2; clear hHeld2; try simp only [Act.put, List.getElem_toArray, List.getElem_cons_zero, List.getElem_cons_succ, List.setIfInBounds_toArray, List.set_cons_zero, List.set_cons_succ])
      (refine wpAnyH_ready (rs := [9]) (by kernel_rfl) (by simp) ?_; refine AllReadyH.cons (o := _) rfl (fun K hK => ?_) AllReadyH.nil)
      refine step_appB rfl (.tmp 39) (.tmp 46) 22 rfl Tryd.underlying22 info_str rfl (by decide) (B + 5) (.slice A5 pre.length c5) pre.length 1 _ w3 #[.string (mkB y)] rfl (by simp [Value.oneCell']) rfl rfl rfl (own_below HOWN.out hb3 (Nat.le_refl _)) (by omega) (by omega) (by omega) (by decide) ?_
      intro A6 c6 w6 hown6 hb6 hg6
      obtain ⟨e1, e2, e3⟩ := app_done HF.out t24 HOWN.out hz hb3 hg6
      have hc6 := (cells3 e1).2.1
      have hf6 := free_blk e1 1
      have K6 := Lib.hid (hkx.trans (Kx.of_below e3))
      have D6 := Lib.hid (hbel.trans (e3.mono (Nat.le_add_right _ _)))
      (refine hK.out _ _ K6.out (fun hHeld2 => ?_); clear hK K hHeld; have hHeld := hHeld2; clear hHeld2; try simp only [Act.put, List.getElem_toArray, List.getElem_cons_zero, List.getElem_cons_succ, List.setIfInBounds_toArray, List.set_cons_zero, List.set_cons_succ])
      (refine wpAnyH_take (i := 10) (oi := _) (v := ?_) rfl (by kernel_rfl) (by kernel_rfl) (by kernel_rfl) (fun _ _ _ h => h) (Or.inl ⟨?_, ?_⟩) (by assumption) ?_; rotate_left; (focus (first | rfl | (simp [Region.wanted, yielded]; done))); (focus (intro w hSw; (try dsimp only at hSw); go_simp; all_goals (with_reducible rfl))); try simp only [Act.put, List.getElem_toArray, List.getElem_cons_zero, List.getElem_cons_succ, List.setIfInBounds_toArray, List.set_cons_zero, List.set_cons_succ])
      (refine wpAnyH_ready (rs := [11]) (by kernel_rfl) (by simp) ?_; refine AllReadyH.cons (o := _) rfl (fun K hK => ?_) AllReadyH.nil; go_simp)
      (refine hK.out _ _ (K6.out.set 1 _) (fun hHeld2 => ?_); clear hK K hHeld; have hHeld := hHeld2; clear hHeld2; try simp only [Act.put, List.getElem_toArray, List.getElem_cons_zero, List.getElem_cons_succ, List.setIfInBounds_toArray, List.set_cons_zero, List.set_cons_succ])
      (refine wpAnyH_done (by kernel_rfl) ?_ _; refine NoPanic.normal ?_)
      clear hHeld
      refine ⟨e2.trans (KeepsOthers.setCell _ _ _), trivial, ⟨⟨_, row_put e1 _, ?_⟩, K6.out.set 1 _, D6.out.setCell (by show B ≤ B + 3; omega) _, ?_⟩⟩
      · rw [PS.out, List.length_append]; exact own_set e1 t24 hown6 1 _
      · exact Nat.le_trans (show B + 5 ≤ w6.heap.size from Nat.le_trans (Nat.le_trans hz hsz3) hb6.size) (KeepsWalks.setCell w6 ⟨B + 3, 1, none⟩ (.slice A6 (pre.length + 1) c6)).size
    · go_simp
      refine (SC.out _ hbd).mono ?_
      rintro e w2 ⟨rfl, hb2'⟩
      have hb2 := drew_below hb2'; clear hb2'
      have hBx2 := (hb2.block (B + 3) (lt_of_block HF.out)).trans HF.out
      have hc2 := (cells3 hBx2).2.1
      have hsz2 := hb2.size
      (refine hK.out _ _ (hkx.trans (Kx.of_below (hb2.mono hz))) (fun hHeld2 => ?_); clear hK K hHeld; have hHeld := hHeld2; clear hHeld2; try simp only [Act.put, List.getElem_toArray, List.getElem_cons_zero, List.getElem_cons_succ, List.setIfInBounds_toArray, List.set_cons_zero, List.set_cons_succ])
      (refine wpAnyH_ready (rs := [1, 7]) (by kernel_rfl) (by simp) ?_; refine AllReadyH.cons (o := _) rfl (fun K hK => ?_) (AllReadyH.cons (o := _) rfl (fun K hK => ?_) AllReadyH.nil))
      · go_simp
        (refine hK.out _ _ hHeld (fun hHeld2 => ?_); clear hK K hHeld; have hHeld := hHeld2; clear hHeld2; try simp only [Act.put, List.getElem_toArray, List.getElem_cons_zero, List.getElem_cons_succ, List.setIfInBounds_toArray, List.set_cons_zero, List.set_cons_succ])
        (refine wpAnyH_ready (rs := [7]) (by kernel_rfl) (by simp) ?_; refine AllReadyH.cons (o := _) rfl (fun K hK => ?_) AllReadyH.nil; go_simp)
        refine (CC.out _).mono ?_
        rintro e w3 ⟨rfl, hb3'⟩
        have hb3 := hb2.trans (hb3'.mono hb2.size); clear hb3'
        have hBx3 := (hb3.block (B + 3) (lt_of_block HF.out)).trans HF.out
        have hc3 := (cells3 hBx3).2.1
        have hsz3 := hb3.size
        have hB3l := lt_of_block hBx3
        (refine hK.out _ _ (hkx.trans (Kx.of_below (hb3.mono hz))) (fun hHeld2 => ?_); clear hK K hHeld; have hHeld := hHeld2; clear hHeld2; try simp only [Act.put, List.getElem_toArray, List.getElem_cons_zero, List.getElem_cons_succ, List.setIfInBounds_toArray, List.set_cons_zero, List.set_cons_succ])
        (refine wpAnyH_ready (rs := [8]) (by kernel_rfl) (by simp) ?_; refine AllReadyH.cons (o := _) rfl (fun K hK => ?_) AllReadyH.nil; go_simp)
        (refine hK.out _ _ (Kx.trans hHeld (Kx.of_below ((Below.refl _ w3).alloc (by omega) _))) (fun hHeld2 => ?_); clear hK K hHeld; have hHeld := hHeld2; clear hHeld2; try simp only [Act.put, List.getElem_toArray, List.getElem_cons_zero, List.getElem_cons_succ, List.setIfInBounds_toArray, List.set_cons_zero, List.set_cons_succ])
        (refine wpAnyH_ready (rs := [9]) (by kernel_rfl) (by simp) ?_; refine AllReadyH.cons (o := _) rfl (fun K hK => ?_) AllReadyH.nil)
        refine step_appB rfl (.tmp 39) (.tmp 46) 22 rfl Tryd.underlying22 info_str rfl (by decide) (B + 5) (.slice A5 pre.length c5) pre.length 1 _ w3 #[.string (mkB y)] rfl (by simp [Value.oneCell']) rfl rfl rfl (own_below HOWN.out hb3 (Nat.le_refl _)) (by omega) (by omega) (by omega) (by decide) ?_
        intro A6 c6 w6 hown6 hb6 hg6
        obtain ⟨e1, e2, e3⟩ := app_done HF.out t24 HOWN.out hz hb3 hg6
        have hc6 := (cells3 e1).2.1
        have hf6 := free_blk e1 1
        have K6 := Lib.hid (hkx.trans (Kx.of_below e3))
        have D6 := Lib.hid (hbel.trans (e3.mono (Nat.le_add_right _ _)))
        (refine hK.out _ _ K6.out (fun hHeld2 => ?_); clear hK K hHeld; have hHeld := hHeld2; clear hHeld2; try simp only [Act.put, List.getElem_toArray, List.getElem_cons_zero, List.getElem_cons_succ, List.setIfInBounds_toArray, List.set_cons_zero, List.set_cons_succ])
        (refine wpAnyH_take (i := 10) (oi := _) (v := ?_) rfl (by kernel_rfl) (by kernel_rfl) (by kernel_rfl) (fun _ _ _ h => h) (Or.inl ⟨?_, ?_⟩) (by assumption) ?_; rotate_left; (focus (first | rfl | (simp [Region.wanted, yielded]; done))); (focus (intro w hSw; (try dsimp only at hSw); go_simp; all_goals (with_reducible rfl))); try simp only [Act.put, List.getElem_toArray, List.getElem_cons_zero, List.getElem_cons_succ, List.setIfInBounds_toArray, List.set_cons_zero, List.set_cons_succ])
        (refine wpAnyH_ready (rs := [11]) (by kernel_rfl) (by simp) ?_; refine AllReadyH.cons (o := _) rfl (fun K hK => ?_) AllReadyH.nil; go_simp)
        (refine hK.out _ _ (K6.out.set 1 _) (fun hHeld2 => ?_); clear hK K hHeld; have hHeld := hHeld2; clear hHeld2; try simp only [Act.put, List.getElem_toArray, List.getElem_cons_zero, List.getElem_cons_succ, List.setIfInBounds_toArray, List.set_cons_zero, List.set_cons_succ])
        (refine wpAnyH_done (by kernel_rfl) ?_ _; refine NoPanic.normal ?_)
        clear hHeld
        refine ⟨e2.trans (KeepsOthers.setCell _ _ _), trivial, ⟨⟨_, row_put e1 _, ?_⟩, K6.out.set 1 _, D6.out.setCell (by show B ≤ B + 3; omega) _, ?_⟩⟩
        · rw [PS.out, List.length_append]; exact own_set e1 t24 hown6 1 _
        · exact Nat.le_trans (show B + 5 ≤ w6.heap.size from Nat.le_trans (Nat.le_trans hz hsz3) hb6.size) (KeepsWalks.setCell w6 ⟨B + 3, 1, none⟩ (.slice A6 (pre.length + 1) c6)).size
      · go_simp
        refine (CC.out _).mono ?_
        rintro e w3 ⟨rfl, hb3'⟩
        have hb3 := hb2.trans (hb3'.mono hb2.size); clear hb3'
        have hBx3 := (hb3.block (B + 3) (lt_of_block HF.out)).trans HF.out
        have hc3 := (cells3 hBx3).2.1
        have hsz3 := hb3.size
        have hB3l := lt_of_block hBx3
        (refine hK.out _ _ (hkx.trans (Kx.of_below (hb3.mono hz))) (fun hHeld2 => ?_); clear hK K hHeld; have hHeld := hHeld2; clear hHeld2; try simp only [Act.put, List.getElem_toArray, List.getElem_cons_zero, List.getElem_cons_succ, List.setIfInBounds_toArray, List.set_cons_zero, List.set_cons_succ])
        (refine wpAnyH_ready (rs := [1, 8]) (by kernel_rfl) (by simp) ?_; refine AllReadyH.cons (o := _) rfl (fun K hK => ?_) (AllReadyH.cons (o := _) rfl (fun K hK => ?_) AllReadyH.nil))
        · go_simp
          (refine hK.out _ _ hHeld (fun hHeld2 => ?_); clear hK K hHeld; have hHeld := hHeld2; clear hHeld2; try simp only [Act.put, List.getElem_toArray, List.getElem_cons_zero, List.getElem_cons_succ, List.setIfInBounds_toArray, List.set_cons_zero, List.set_cons_succ])
          (refine wpAnyH_ready (rs := [8]) (by kernel_rfl) (by simp) ?_; refine AllReadyH.cons (o := _) rfl (fun K hK => ?_) AllReadyH.nil; go_simp)
          (refine hK.out _ _ (Kx.trans hHeld (Kx.of_below ((Below.refl _ w3).alloc (by omega) _))) (fun hHeld2 => ?_); clear hK K hHeld; have hHeld := hHeld2; clear hHeld2; try simp only [Act.put, List.getElem_toArray, List.getElem_cons_zero, List.getElem_cons_succ, List.setIfInBounds_toArray, List.set_cons_zero, List.set_cons_succ])
          (refine wpAnyH_ready (rs := [9]) (by kernel_rfl) (by simp) ?_; refine AllReadyH.cons (o := _) rfl (fun K hK => ?_) AllReadyH.nil)
          refine step_appB rfl (.tmp 39) (.tmp 46) 22 rfl Tryd.underlying22 info_str rfl (by decide) (B + 5) (.slice A5 pre.length c5) pre.length 1 _ w3 #[.string (mkB y)] rfl (by simp [Value.oneCell']) rfl rfl rfl (own_below HOWN.out hb3 (Nat.le_refl _)) (by omega) (by omega) (by omega) (by decide) ?_
          intro A6 c6 w6 hown6 hb6 hg6
          obtain ⟨e1, e2, e3⟩ := app_done HF.out t24 HOWN.out hz hb3 hg6
          have hc6 := (cells3 e1).2.1
          have hf6 := free_blk e1 1
          have K6 := Lib.hid (hkx.trans (Kx.of_below e3))
          have D6 := Lib.hid (hbel.trans (e3.mono (Nat.le_add_right _ _)))
          (refine hK.out _ _ K6.out (fun hHeld2 => ?_); clear hK K hHeld; have hHeld := hHeld2; clear hHeld2; try simp only [Act.put, List.getElem_toArray, List.getElem_cons_zero, List.getElem_cons_succ, List.setIfInBounds_toArray, List.set_cons_zero, List.set_cons_succ])
          (refine wpAnyH_take (i := 10) (oi := _) (v := ?_) rfl (by kernel_rfl) (by kernel_rfl) (by kernel_rfl) (fun _ _ _ h => h) (Or.inl ⟨?_, ?_⟩) (by assumption) ?_; rotate_left; (focus (first | rfl | (simp [Region.wanted, yielded]; done))); (focus (intro w hSw; (try dsimp only at hSw); go_simp; all_goals (with_reducible rfl))); try simp only [Act.put, List.getElem_toArray, List.getElem_cons_zero, List.getElem_cons_succ, List.setIfInBounds_toArray, List.set_cons_zero, List.set_cons_succ])
          (refine wpAnyH_ready (rs := [11]) (by kernel_rfl) (by simp) ?_; refine AllReadyH.cons (o := _) rfl (fun K hK => ?_) AllReadyH.nil; go_simp)
          (refine hK.out _ _ (K6.out.set 1 _) (fun hHeld2 => ?_); clear hK K hHeld; have hHeld := hHeld2; clear hHeld2; try simp only [Act.put, List.getElem_toArray, List.getElem_cons_zero, List.getElem_cons_succ, List.setIfInBounds_toArray, List.set_cons_zero, List.set_cons_succ])
          (refine wpAnyH_done (by kernel_rfl) ?_ _; refine NoPanic.normal ?_)
          clear hHeld
          refine ⟨e2.trans (KeepsOthers.setCell _ _ _), trivial, ⟨⟨_, row_put e1 _, ?_⟩, K6.out.set 1 _, D6.out.setCell (by show B ≤ B + 3; omega) _, ?_⟩⟩
          · rw [PS.out, List.length_append]; exact own_set e1 t24 hown6 1 _
          · exact Nat.le_trans (show B + 5 ≤ w6.heap.size from Nat.le_trans (Nat.le_trans hz hsz3) hb6.size) (KeepsWalks.setCell w6 ⟨B + 3, 1, none⟩ (.slice A6 (pre.length + 1) c6)).size
        · go_simp
          (refine hK.out _ _ (Kx.trans hHeld (Kx.of_below ((Below.refl _ w3).alloc (by omega) _))) (fun hHeld2 => ?_); clear hK K hHeld; have hHeld := hHeld2; clear hHeld2; try simp only [Act.put, List.getElem_toArray, List.getElem_cons_zero, List.getElem_cons_succ, List.setIfInBounds_toArray, List.set_cons_zero, List.set_cons_succ])
          (refine wpAnyH_ready (rs := [1]) (by kernel_rfl) (by simp) ?_; refine AllReadyH.cons (o := _) rfl (fun K hK => ?_) AllReadyH.nil; go_simp)
          (refine hK.out _ _ hHeld (fun hHeld2 => ?_); clear hK K hHeld; have hHeld := hHeld2; clear hHeld2; try simp only [Act.put, List.getElem_toArray, List.getElem_cons_zero, List.getElem_cons_succ, List.setIfInBounds_toArray, List.set_cons_zero, List.set_cons_succ])
          (refine wpAnyH_ready (rs := [9]) (by kernel_rfl) (by simp) ?_; refine AllReadyH.cons (o := _) rfl (fun K hK => ?_) AllReadyH.nil)
          refine step_appB rfl (.tmp 39) (.tmp 46) 22 rfl Tryd.underlying22 info_str rfl (by decide) (B + 5) (.slice A5 pre.length c5) pre.length 1 _ w3 #[.string (mkB y)] rfl (by simp [Value.oneCell']) rfl rfl rfl (own_below HOWN.out hb3 (Nat.le_refl _)) (by omega) (by omega) (by omega) (by decide) ?_
          intro A6 c6 w6 hown6 hb6 hg6
          obtain ⟨e1, e2, e3⟩ := app_done HF.out t24 HOWN.out hz hb3 hg6
          have hc6 := (cells3 e1).2.1
          have hf6 := free_blk e1 1
          have K6 := Lib.hid (hkx.trans (Kx.of_below e3))
          have D6 := Lib.hid (hbel.trans (e3.mono (Nat.le_add_right _ _)))
          (refine hK.out _ _ K6.out (fun hHeld2 => ?_); clear hK K hHeld; have hHeld := hHeld2; clear hHeld2; try simp only [Act.put, List.getElem_toArray, List.getElem_cons_zero, List.getElem_cons_succ, List.setIfInBounds_toArray, List.set_cons_zero, List.set_cons_succ])
          (refine wpAnyH_take (i := 10) (oi := _) (v := ?_) rfl (by kernel_rfl) (by kernel_rfl) (by kernel_rfl) (fun _ _ _ h => h) (Or.inl ⟨?_, ?_⟩) (by assumption) ?_; rotate_left; (focus (first | rfl | (simp [Region.wanted, yielded]; done))); (focus (intro w hSw; (try dsimp only at hSw); go_simp; all_goals (with_reducible rfl))); try simp only [Act.put, List.getElem_toArray, List.getElem_cons_zero, List.getElem_cons_succ, List.setIfInBounds_toArray, List.set_cons_zero, List.set_cons_succ])
          (refine wpAnyH_ready (rs := [11]) (by kernel_rfl) (by simp) ?_; refine AllReadyH.cons (o := _) rfl (fun K hK => ?_) AllReadyH.nil; go_simp)
          (refine hK.out _ _ (K6.out.set 1 _) (fun hHeld2 => ?_); clear hK K hHeld; have hHeld := hHeld2; clear hHeld2; try simp only [Act.put, List.getElem_toArray, List.getElem_cons_zero, List.getElem_cons_succ, List.setIfInBounds_toArray, List.set_cons_zero, List.set_cons_succ])
          (refine wpAnyH_done (by kernel_rfl) ?_ _; refine NoPanic.normal ?_)
          clear hHeld
          refine ⟨e2.trans (KeepsOthers.setCell _ _ _), trivial, ⟨⟨_, row_put e1 _, ?_⟩, K6.out.set 1 _, D6.out.setCell (by show B ≤ B + 3; omega) _, ?_⟩⟩
          · rw [PS.out, List.length_append]; exact own_set e1 t24 hown6 1 _
          · exact Nat.le_trans (show B + 5 ≤ w6.heap.size from Nat.le_trans (Nat.le_trans hz hsz3) hb6.size) (KeepsWalks.setCell w6 ⟨B + 3, 1, none⟩ (.slice A6 (pre.length + 1) c6)).size
  case done =>
    rintro D ys W hD hys ⟨⟨v, hF, hown⟩, hkx, hbel, hz⟩ hdef
    have PA := Lib.hid (sig_all s.data.toList m.data.toList i hys)
    have PL : Hid (ys.length = 18) := Lib.hid (up_len hys)
    have PS18 : Hid ((Sl.sigF s.data.toList i m.data.toList).length = 18) := Lib.hid (by simp [Sl.sigF])
    rw [PA.out, PL.out] at hown
    obtain ⟨A5, c5, rfl, hc5, hc6⟩ := own_form hown
    have RX : Hid (RdX W A5 (sv (Sl.sigF s.data.toList i m.data.toList)) (B + 3)) := Lib.hid (rdx_own hown hF t24)
    have hF2 : W.heap[B + 2]? = some (.cells #[.int .i64 0, .slice none 0 0, .slice none 0 0] 24 (0, 0)) := (hkx.2 (B + 2) (by omega) (by omega)).trans F2.out
    have HF := Lib.hid hF; have HDEF := Lib.hid hdef; have HF2 := Lib.hid hF2
    have hDne : D ≠ B + 3 := by intro e; rw [e, hF] at hdef; cases hdef
    have hDne2 : D ≠ B + 2 := by intro e; rw [e, hF2] at hdef; cases hdef
    have hDlt : D < W.heap.size := (Array.getElem?_eq_some_iff.1 hdef).1
    clear hown hF hdef hys PA hF2
    have C0 : ∀ w', Kx (B + 5) (B + 3) w1 w' → w'.cell? ⟨B, 0, none⟩ = some (.string s) := fun w' h => (h.cell (p := ⟨B, 0, none⟩) (by show B < B + 5; omega) (by show B ≠ B + 3; omega)).trans (cell_of_row w1 B 0 _ _ _ F0.out)
    have C1 : ∀ w', Kx (B + 5) (B + 3) w1 w' → w'.cell? ⟨B + 1, 0, none⟩ = some (.int .i64 i) := fun w' h => (h.cell (p := ⟨B + 1, 0, none⟩) (by show B + 1 < B + 5; omega) (by show B + 1 ≠ B + 3; omega)).trans (cell_of_row w1 (B + 1) 0 _ _ _ F1.out)
    have KC : Hid (∀ u, Below B w u → Calls Tryd.prog 26 #[.string s, .int .i64 h] u (SlPost u (Sl.keysF s.data.toList h))) := Lib.hid (fun u hu => keys_any s h u hs hh (HT.out.keep (HW.out ▸ hu)))
    have KL := Lib.hid (Sl.keysF_len s.data.toList h)
    have KS := Lib.hid (keys_size (s := s.data.toList) (h := h))
    have PSL : Hid ((Sl.pathS s.data.toList h i).length = h) := Lib.hid (Sl.path_len _ _ _)
    have PE : Hid ([] ++ Sl.path h (Sl.keysF s.data.toList h) i = Sl.pathS s.data.toList h i) := Lib.hid rfl
    generalize Sl.keysF s.data.toList h = K at *
    generalize Sl.pathS s.data.toList h i = PS at *
    have hbd : Below B w W.drew := hbel.drew
    have hkd : Kx (B + 5) (B + 3) w1 W.drew := hkx
    go_wp2_with fail
    (refine wp_region_noPanic ?_; refine wp_region_held_drew (S := (fun w' => Kx (B + 5) (B + 3) w1 w')) (by kernel_rfl) ?_ (fun hHeld => ?_); exact hkd)
    (refine wpAnyH_take (i := 0) (oi := _) (v := ?_) rfl (by kernel_rfl) (by kernel_rfl) (by kernel_rfl) (fun _ _ _ h => h) (Or.inl ⟨?_, ?_⟩) (by assumption) ?_; rotate_left; (focus (first | rfl | (simp [Region.wanted, yielded]; done))); (focus (intro w hSw; (try dsimp only at hSw); go_simp; all_goals (with_reducible rfl))); try simp only [Act.put, List.getElem_toArray, List.getElem_cons_zero, List.getElem_cons_succ, List.setIfInBounds_toArray, List.set_cons_zero, List.set_cons_succ])
    (refine wpAnyH_take (i := 1) (oi := _) (v := ?_) rfl (by kernel_rfl) (by kernel_rfl) (by kernel_rfl) (fun _ _ _ h => h) (Or.inl ⟨?_, ?_⟩) (by assumption) ?_; rotate_left; (focus (first | rfl | (simp [Region.wanted, yielded]; done))); (focus (intro w hSw; (try dsimp only at hSw); go_simp; all_goals (with_reducible rfl))); try simp only [Act.put, List.getElem_toArray, List.getElem_cons_zero, List.getElem_cons_succ, List.setIfInBounds_toArray, List.set_cons_zero, List.set_cons_succ])
    (refine wpAnyH_take (i := 3) (oi := _) (v := ?_) rfl (by kernel_rfl) (by kernel_rfl) (by kernel_rfl) (fun _ _ _ h => h) (Or.inl ⟨?_, ?_⟩) (by assumption) ?_; rotate_left; (focus (first | rfl | (simp [Region.wanted, yielded]; done))); (focus (intro w hSw; (try dsimp only at hSw); go_simp; all_goals (with_reducible rfl))); try simp only [Act.put, List.getElem_toArray, List.getElem_cons_zero, List.getElem_cons_succ, List.setIfInBounds_toArray, List.set_cons_zero, List.set_cons_succ])
    (refine wpAnyH_ready (rs := [2]) (by kernel_rfl) (by simp) ?_; refine AllReadyH.cons (o := _) rfl (fun K hK => ?_) AllReadyH.nil; go_simp)
    refine (KC.out _ hbd).mono ?_
    rintro e w2 ⟨A, c, rfl, hk1, hk2, hrd, hb2', hfr⟩
    have hb2 := drew_below hb2'; clear hb2'
    (refine hK.out _ _ (hkx.trans (Kx.of_below (hb2.mono hz))) (fun hHeld2 => ?_); clear hK K hHeld; have hHeld := hHeld2; clear hHeld2; try simp only [Act.put, List.getElem_toArray, List.getElem_cons_zero, List.getElem_cons_succ, List.setIfInBounds_toArray, List.set_cons_zero, List.set_cons_succ])
    (refine wpAnyH_take (i := 4) (oi := _) (v := ?_) rfl (by kernel_rfl) (by kernel_rfl) (by kernel_rfl) (fun _ _ _ h => h) (Or.inl ⟨?_, ?_⟩) (by assumption) ?_; rotate_left; (focus (first | rfl | (simp [Region.wanted, yielded]; done))); (focus (intro w hSw; (try dsimp only at hSw); go_simp; all_goals (with_reducible rfl))); try simp only [Act.put, List.getElem_toArray, List.getElem_cons_zero, List.getElem_cons_succ, List.setIfInBounds_toArray, List.set_cons_zero, List.set_cons_succ])
    (refine wpAnyH_take (i := 5) (oi := _) (v := ?_) rfl (by kernel_rfl) (by kernel_rfl) (by kernel_rfl) (fun _ _ _ h => h) (Or.inl ⟨?_, ?_⟩) (by assumption) ?_; rotate_left; (focus (first | rfl | (simp [Region.wanted, yielded]; done))); (focus (intro w hSw; (try dsimp only at hSw); go_simp; all_goals (with_reducible rfl))); try simp only [Act.put, List.getElem_toArray, List.getElem_cons_zero, List.getElem_cons_succ, List.setIfInBounds_toArray, List.set_cons_zero, List.set_cons_succ])
    (refine wpAnyH_done (by kernel_rfl) ?_ _; refine NoPanic.normal ?_)
    clear hHeld C0 C1 hkd hbd KC
    have hsz2 := hb2.size
    have ST : Hid (LvR w w2 B i h PS (.slice A5 18 c5) (.slice A K.length c) (.int .i64 i) w2) := Lib.hid ⟨h, K, A, c, i, [], .slice none 0 0, rfl, rfl, Nat.le_refl _, KL.out, hk1, hk2, KS.out, by rw [HN.out]; exact hi, PE.out, hrd, (hb2.block (B + 3) (lt_of_block HF.out)).trans HF.out, World.ownsRow_nil _ _ _ _, fun g hg => by simp [Value.ownBlock] at hg, fun p hp => by have := hfr p hp; have : W.drew.heap.size = W.heap.size := rfl; omega, Kx.refl _ _ _, hbel.trans (hb2.mono (by omega)), Nat.le_refl _⟩
    have HD2 : Hid (w2.heap[D]? = some (.deferred (some []))) := Lib.hid ((hb2.block D hDlt).trans HDEF.out)
    have HG2 : Hid (w2.heap[B + 2]? = some (.cells #[.int .i64 0, .slice none 0 0, .slice none 0 0] 24 (0, 0))) := Lib.hid ((hb2.block (B + 2) (lt_of_block HF2.out)).trans HF2.out)
    have RX2 : Hid (RdX w2 A5 (sv (Sl.sigF s.data.toList i m.data.toList)) (B + 3)) := Lib.hid (RX.out.kx (Kx.of_below (n₀ := W.heap.size) hb2) (Nat.le_refl _))
    have hD2 : D < w2.heap.size := by omega
    have hB2 : B + 5 ≤ w2.heap.size := by omega
    clear hrd hfr hk1 hk2 PE KL KS hb2 HF HF2 HDEF RX F0 F1 F2 F3 F4
    go_wp2_with fail
    go_loopw [13, 14] (fun l jv wr => Hid (LvR w w2 B i h PS (.slice A5 18 c5) l jv wr)) (fun l _ _ => slLen l)
    case atStart => exact ST
    case round =>
      clear ST
      obtain ⟨k, L, A, c, j, P, vp, rfl, rfl, hk, hl, hc1, hc2, hsz, hj, hpath, hrd, hF, hown, hsep, hAne, hkx2, hbl, hz2⟩ := hrel.out
      clear hrel
      obtain ⟨A6, c6, rfl, hc7, hc8⟩ := own_form hown
      have HRD := Lib.hid hrd; have HF := Lib.hid hF; have HOWN := Lib.hid hown; have HSZ := Lib.hid hsz; have HP := Lib.hid hpath; have HSEP := Lib.hid hsep; have HANE := Lib.hid hAne; have HL := Lib.hid hl; have BL := Lib.hid hbl; have K2 := Lib.hid hkx2
      obtain ⟨x0, x1, x2⟩ := cells3 hF
      clear hrd hF hown hsz hpath hsep hAne hl hbl hkx2
      cases k with
      | zero =>
        have hP : P = PS := by have := HP.out; rw [show Sl.path 0 L j = [] from rfl, List.append_nil] at this; exact this
        subst hP
        have l1 : L.length = 1 := HL.out
        have G := Lib.hid ((K2.out.2 (B + 2) (by omega) (by omega)).trans HG2.out)
        obtain ⟨g0, g1, g2⟩ := cells3 G.out
        have f0 := free_blk G.out 0
        have f1 := free_blk G.out 1
        have f2 := free_blk G.out 2
        have DE := Lib.hid ((K2.out.2 D hD2 hDne).trans HD2.out)
        have RS := Lib.hid ((RX2.out.kx K2.out (Nat.le_refl _)))
        have RP := Lib.hid (rdx_own HOWN.out HF.out t24)
        obtain ⟨ln, hln⟩ : ∃ n, L.length = n := ⟨_, rfl⟩
        rw [hln] at l1 hc1 ⊢
        subst l1
        clear hln HL
        have EC := Lib.hid (endW_cells (D := D) (v0 := .int .i64 i) (v1 := .slice A5 18 c5) (v2 := .slice A6 P.length c6) G.out (by omega))
        have ES := Lib.hid (endW_rd (v0 := .int .i64 i) (v1 := .slice A5 18 c5) (v2 := .slice A6 P.length c6) RS.out.rd G.out (no_str3 _ _ _ _ _ _ _) DE.out)
        have EP := Lib.hid (endW_rd (v0 := .int .i64 i) (v1 := .slice A5 18 c5) (v2 := .slice A6 P.length c6) RP.out.rd G.out (no_str3 _ _ _ _ _ _ _) DE.out)
        have EB := Lib.hid (endW_below (Bq := B + 2) (D := D) (v0 := .int .i64 i) (v1 := .slice A5 18 c5) (v2 := .slice A6 P.length c6) BL.out HW.out.symm (by omega) (by omega))
        have ED : Hid ((((wr.setCell ⟨B + 2, 0, none⟩ (.int .i64 i)).setCell ⟨B + 2, 1, none⟩ (.slice A5 18 c5)).setCell ⟨B + 2, 2, none⟩ (.slice A6 P.length c6)).heap[D]? = some (.deferred (some []))) := Lib.hid ((Below.heap_setCell _ _ _ _ (by exact hDne2)).trans ((Below.heap_setCell _ _ _ _ (by exact hDne2)).trans ((Below.heap_setCell _ _ _ _ (by exact hDne2)).trans DE.out)))
        clear RS RP DE
        go_wp2_with fail
        refine ⟨by simp, .inl ⟨_, _, rfl, run_takeDeferred ED.out, ?_⟩⟩
        obtain ⟨q0, q1, q2⟩ := cells3 EC.out
        generalize hWe : EndW wr (B + 2) D (.int .i64 i) (.slice A5 18 c5) (.slice A6 P.length c6) = We at *
        have hWe2 := hWe
        unfold EndW at hWe2
        rw [show B + 1 + 1 = B + 2 from rfl, hWe2]
        rw [HW.out.symm] at EB
        exact ⟨.tuple #[.agg #[.int .i64 i, .slice A5 18 c5, .slice A6 P.length c6], .int .i64 0], by simp [results, Tryd.results15, go_sem, q0, q1, q2], ⟨A5, c5, A6, c6, by rw [PS18.out], by rw [PS18.out]; exact hc5, hc6, hc7, hc8, ES.out, EP.out, EB.out⟩⟩
      | succ k =>
        have P2 := Lib.hid (pow_two k)
        have P0 := pow_pos2 k
        have P1k : 2 ^ k ≤ 1000 := Nat.le_trans (pow_le256 (k := k) (h := h) (by omega) hh) (by decide)
        have P8' := pow_le256 (k := k) (h := h) (by omega) (by omega)
        have hl2 : L.length = 2 * 2 ^ k := by rw [← P2.out]; exact HL.out
        have hq := sib_lt hj
        have P9 := pow_le256 (k := k + 1) (h := h) hk hh
        rw [P2.out] at hq hj P9
        have hx := sib_xor (j := j) (by omega)
        have PT : Hid (Sl.path (k + 1) L j = L.getD (Sl.sib j) [] :: Sl.path k (Sl.up L) (j / 2)) := Lib.hid rfl
        obtain ⟨b, off, rfl, hb, hcell⟩ := HRD.out (by rw [sv_len]; omega)
        have hel := hcell (Sl.sib j) _ (getD_at (by omega))
        generalize L.getD (Sl.sib j) [] = y at *
        generalize Sl.sib j = q at *
        have q0 : (0 : Int) ≤ (q : Int) := by omega
        have q1 : (q : Int) < (L.length : Int) := by omega
        have d6 : (1 : Int) < (L.length : Int) := by omega
        have d7 : 1 < L.length := by omega
        have hPl : P.length ≤ 1000 := by
          have := congrArg List.length HP.out
          rw [PSL.out, List.length_append] at this
          omega
        have UH := Lib.hid (up_half HL.out)
        have US := Lib.hid (up_size (L := L))
        have UM : Hid ((Sl.up L).length < L.length) := Lib.hid (by rw [Sl.up_len]; omega)
        have J2 : Hid (j / 2 < 2 ^ k) := Lib.hid (by omega)
        have HP2 : Hid ((P ++ [y]) ++ Sl.path k (Sl.up L) (j / 2) = PS) := Lib.hid (by rw [List.append_assoc, ← HP.out, PT.out]; rfl)
        have JV : Hid (Value.int .i64 ((j : Int) / 2) = .int .i64 ((j / 2 : Nat) : Int)) := Lib.hid (by rw [show ((j / 2 : Nat) : Int) = (j : Int) / 2 by omega])
        have hBl := lt_of_block HF.out
        have hBl2 : B + 1 + 1 + 1 < wr.heap.size := hBl
        have j9 : (j : Int) < 1000 := by omega
        have HL2 := Lib.hid hl2; have HQ := Lib.hid hq; have HJ := Lib.hid hj
        clear hl2 hq hj P8' P9
        go_wp2_with fail
        (refine wp_region_noPanic ?_; refine wp_region_held_drew (S := (fun _ => True)) (by kernel_rfl) ?_ (fun hHeld => ?_); exact trivial)
        (refine wpAnyH_take (i := 0) (oi := _) (v := ?_) rfl (by kernel_rfl) (by kernel_rfl) (by kernel_rfl) (fun _ _ _ h => h) (Or.inl ⟨?_, ?_⟩) (by assumption) ?_; rotate_left; (focus (first | rfl | (simp [Region.wanted, yielded]; done))); (focus (intro w hSw; (try dsimp only at hSw); go_simp; all_goals (with_reducible rfl))); try simp only [Act.put, List.getElem_toArray, List.getElem_cons_zero, List.getElem_cons_succ, List.setIfInBounds_toArray, List.set_cons_zero, List.set_cons_succ])
        (refine wpAnyH_take (i := 2) (oi := _) (v := ?_) rfl (by kernel_rfl) (by kernel_rfl) (by kernel_rfl) (fun _ _ _ h => h) (Or.inl ⟨?_, ?_⟩) (by assumption) ?_; rotate_left; (focus (first | rfl | (simp [Region.wanted, yielded]; done))); (focus (intro w hSw; (try dsimp only at hSw); go_simp; all_goals (with_reducible rfl))); try simp only [Act.put, List.getElem_toArray, List.getElem_cons_zero, List.getElem_cons_succ, List.setIfInBounds_toArray, List.set_cons_zero, List.set_cons_succ])
        (refine wpAnyH_take (i := 3) (oi := _) (v := ?_) rfl (by kernel_rfl) (by kernel_rfl) (by kernel_rfl) (fun _ _ _ h => h) (Or.inl ⟨?_, ?_⟩) (by assumption) ?_; rotate_left; (focus (first | rfl | (simp [Region.wanted, yielded]; done))); (focus (intro w hSw; (try dsimp only at hSw); go_simp; all_goals (with_reducible rfl))); try simp only [Act.put, List.getElem_toArray, List.getElem_cons_zero, List.getElem_cons_succ, List.setIfInBounds_toArray, List.set_cons_zero, List.set_cons_succ])
        (refine wpAnyH_take (i := 4) (oi := _) (v := ?_) rfl (by kernel_rfl) (by kernel_rfl) (by kernel_rfl) (fun _ _ _ h => h) (Or.inl ⟨?_, ?_⟩) (by assumption) ?_; rotate_left; (focus (first | rfl | (simp [Region.wanted, yielded]; done))); (focus (intro w hSw; (try dsimp only at hSw); go_simp; all_goals (with_reducible rfl))); try simp only [Act.put, List.getElem_toArray, List.getElem_cons_zero, List.getElem_cons_succ, List.setIfInBounds_toArray, List.set_cons_zero, List.set_cons_succ])
        (refine wpAnyH_take (i := 5) (oi := _) (v := ?_) rfl (by kernel_rfl) (by kernel_rfl) (by kernel_rfl) (fun _ _ _ h => h) (Or.inl ⟨?_, ?_⟩) (by assumption) ?_; rotate_left; (focus (first | rfl | (simp [Region.wanted, yielded]; done))); (focus (intro w hSw; (try dsimp only at hSw); go_simp; all_goals (with_reducible rfl))); try simp only [Act.put, List.getElem_toArray, List.getElem_cons_zero, List.getElem_cons_succ, List.setIfInBounds_toArray, List.set_cons_zero, List.set_cons_succ])
        (refine wpAnyH_ready (rs := [1, 6]) (by kernel_rfl) (by simp) ?_; refine AllReadyH.cons (o := _) rfl (fun K hK => ?_) (AllReadyH.cons (o := _) rfl (fun K hK => ?_) AllReadyH.nil))
        · go_simp
          (refine hK.out _ _ trivial (fun hHeld2 => ?_); clear hK K hHeld; have hHeld := hHeld2; clear hHeld2; try simp only [Act.put, List.getElem_toArray, List.getElem_cons_zero, List.getElem_cons_succ, List.setIfInBounds_toArray, List.set_cons_zero, List.set_cons_succ])
          (refine wpAnyH_ready (rs := [6]) (by kernel_rfl) (by simp) ?_; refine AllReadyH.cons (o := _) rfl (fun K hK => ?_) AllReadyH.nil; go_simp)
          (refine hK.out _ _ trivial (fun hHeld2 => ?_); clear hK K hHeld; have hHeld := hHeld2; clear hHeld2; try simp only [Act.put, List.getElem_toArray, List.getElem_cons_zero, List.getElem_cons_succ, List.setIfInBounds_toArray, List.set_cons_zero, List.set_cons_succ])
          (refine wpAnyH_ready (rs := [7]) (by kernel_rfl) (by simp) ?_; refine AllReadyH.cons (o := _) rfl (fun K hK => ?_) AllReadyH.nil; go_simp)
          (refine hK.out _ _ trivial (fun hHeld2 => ?_); clear hK K hHeld; have hHeld := hHeld2; clear hHeld2; try simp only [Act.put, List.getElem_toArray, List.getElem_cons_zero, List.getElem_cons_succ, List.setIfInBounds_toArray, List.set_cons_zero, List.set_cons_succ])
          (refine wpAnyH_ready (rs := [8]) (by kernel_rfl) (by simp) ?_; refine AllReadyH.cons (o := _) rfl (fun K hK => ?_) AllReadyH.nil)
          refine step_appB rfl (.tmp 61) (.tmp 67) 22 rfl Tryd.underlying22 info_str rfl (by decide) w2.heap.size (.slice A6 P.length c6) P.length 1 _ wr.drew #[.string (mkB y)] rfl (by simp [Value.oneCell']) rfl rfl rfl (by exact HOWN.out) (by exact hz2) (by omega) (by omega) (by decide) ?_
          intro A7 c7 w7 hown7 hb7 hg7
          obtain ⟨e1, e2, e3⟩ := app_done HF.out t24 HOWN.out hz2 ((Below.refl _ wr).drew) hg7
          have hc7' := (cells3 e1).2.2
          have hf7 := free_blk e1 2
          (refine hK.out _ _ trivial (fun hHeld2 => ?_); clear hK K hHeld; have hHeld := hHeld2; clear hHeld2; try simp only [Act.put, List.getElem_toArray, List.getElem_cons_zero, List.getElem_cons_succ, List.setIfInBounds_toArray, List.set_cons_zero, List.set_cons_succ])
          (refine wpAnyH_take (i := 9) (oi := _) (v := ?_) rfl (by kernel_rfl) (by kernel_rfl) (by kernel_rfl) (fun _ _ _ h => h) (Or.inl ⟨?_, ?_⟩) (by assumption) ?_; rotate_left; (focus (first | rfl | (simp [Region.wanted, yielded]; done))); (focus (intro w hSw; (try dsimp only at hSw); go_simp; all_goals (with_reducible rfl))); try simp only [Act.put, List.getElem_toArray, List.getElem_cons_zero, List.getElem_cons_succ, List.setIfInBounds_toArray, List.set_cons_zero, List.set_cons_succ])
          (refine wpAnyH_ready (rs := [10]) (by kernel_rfl) (by simp) ?_; refine AllReadyH.cons (o := _) rfl (fun K hK => ?_) AllReadyH.nil; go_simp)
          (refine hK.out _ _ trivial (fun hHeld2 => ?_); clear hK K hHeld; have hHeld := hHeld2; clear hHeld2; try simp only [Act.put, List.getElem_toArray, List.getElem_cons_zero, List.getElem_cons_succ, List.setIfInBounds_toArray, List.set_cons_zero, List.set_cons_succ])
          (refine wpAnyH_done (by kernel_rfl) ?_ _; refine NoPanic.normal ?_)
          clear hHeld
          have G8 : Hid ((w7.setCell ⟨B + 3, 2, none⟩ (.slice A7 (P.length + 1) c7)).heap[B + 3]? = some (.cells #[.int .i64 i, .slice A5 18 c5, .slice A7 (P.length + 1) c7] 24 (0, 0))) := Lib.hid (row_put e1 _)
          have O8 : Hid ((w7.setCell ⟨B + 3, 2, none⟩ (.slice A7 (P.length + 1) c7)).ownsRow w2.heap.size 9 1 (.slice A7 (P.length + 1) c7) (P.length + 1) (sv (P ++ [y]))) := Lib.hid (by rw [sv_app, sv_one]; exact own_set e1 t24 hown7 2 _)
          have K8 : Hid (Kx w2.heap.size (B + 3) w2 (w7.setCell ⟨B + 3, 2, none⟩ (.slice A7 (P.length + 1) c7))) := Lib.hid ((K2.out.trans (Kx.of_below e3)).set 2 _)
          have L8 : Hid (Below B w (w7.setCell ⟨B + 3, 2, none⟩ (.slice A7 (P.length + 1) c7))) := Lib.hid ((BL.out.trans (e3.mono (by omega))).setCell (by show B ≤ B + 3; omega) _)
          have R8 : Hid (Rd (w7.setCell ⟨B + 3, 2, none⟩ (.slice A7 (P.length + 1) c7)) (some ⟨b, off, none⟩) (sv L)) := Lib.hid (fun hp => by
            obtain ⟨b', off', eA, hb', hc'⟩ := HRD.out hp
            refine ⟨b', off', eA, ?_, fun q u hu => ?_⟩
            · exact Nat.lt_of_lt_of_le hb' (Nat.le_trans e3.size (KeepsWalks.setCell w7 ⟨B + 3, 2, none⟩ (.slice A7 (P.length + 1) c7)).size)
            · refine (World.cell?_of_block (a := ⟨b', off' + q, none⟩) ?_).trans (hc' q u hu)
              refine (Below.heap_setCell _ _ _ _ (by show b' ≠ B + 3; exact HANE.out _ eA)).trans ((hg7.block b' (by simp; omega) (fun e => HSEP.out b' e.symm _ eA rfl)).trans ?_)
              exact (alloc_old _ _ (by exact hb')).trans rfl)
          have Z8 : Hid (w2.heap.size ≤ (w7.setCell ⟨B + 3, 2, none⟩ (.slice A7 (P.length + 1) c7)).heap.size) := Lib.hid (Nat.le_trans (Nat.le_trans hz2 e3.size) (KeepsWalks.setCell w7 ⟨B + 3, 2, none⟩ (.slice A7 (P.length + 1) c7)).size)
          clear e1 e2 e3 hown7 hb7 hg7 hc7' hf7 x0 x1 x2 hel
          have AA := Lib.hid (above_any (some ⟨b, off, none⟩) L.length c (2 ^ k) L _ rfl HL2.out P0 P1k hc1 (by exact hc2) HSZ.out (HT.out.keep (HW.out ▸ L8.out)) R8.out)
          generalize hw8 : w7.setCell ⟨B + 3, 2, none⟩ (.slice A7 (P.length + 1) c7) = w8 at *
          generalize Sl.up L = U at *
          go_wp2_with fail
          refine AA.out.mono ?_
          rintro e w9 ⟨A', c', rfl, hc3, hc4, hrd9, hb9, hfr9⟩
          have NX : Hid (LvR w w2 B i h PS (.slice A5 18 c5) (.slice A' U.length c') (.int .i64 ((j : Int) / 2)) w9) := Lib.hid ⟨k, U, A', c', j / 2, P ++ [y], .slice A7 (P.length + 1) c7, rfl, JV.out, by omega, UH.out, hc3, hc4, US.out, J2.out, HP2.out, hrd9, (hb9.block (B + 3) (lt_of_block G8.out)).trans G8.out, by rw [show (P ++ [y]).length = P.length + 1 by simp]; exact own_below O8.out hb9 (Nat.le_refl _), fun g hg p hp => by have := (O8.out.lt g hg).2; have := hfr9 p hp; omega, fun p hp => by have := hfr9 p hp; have := lt_of_block G8.out; omega, K8.out.trans (Kx.of_below (hb9.mono Z8.out)), L8.out.trans (hb9.mono (by have := lt_of_block G8.out; omega)), Nat.le_trans Z8.out hb9.size⟩
          clear hc3 hc4 hrd9 hb9 hfr9
          go_wp2_with fail
          exact ⟨NX, by simpa [slLen] using UM.out⟩
        · go_simp
          (refine hK.out _ _ trivial (fun hHeld2 => ?_); clear hK K hHeld; have hHeld := hHeld2; clear hHeld2; try simp only [Act.put, List.getElem_toArray, List.getElem_cons_zero, List.getElem_cons_succ, List.setIfInBounds_toArray, List.set_cons_zero, List.set_cons_succ])
          (refine wpAnyH_ready (rs := [1, 7]) (by kernel_rfl) (by simp) ?_; refine AllReadyH.cons (o := _) rfl (fun K hK => ?_) (AllReadyH.cons (o := _) rfl (fun K hK => ?_) AllReadyH.nil))
          · go_simp
            (refine hK.out _ _ trivial (fun hHeld2 => ?_); clear hK K hHeld; have hHeld := hHeld2; clear hHeld2; try simp only [Act.put, List.getElem_toArray, List.getElem_cons_zero, List.getElem_cons_succ, List.setIfInBounds_toArray, List.set_cons_zero, List.set_cons_succ])
            (refine wpAnyH_ready (rs := [7]) (by kernel_rfl) (by simp) ?_; refine AllReadyH.cons (o := _) rfl (fun K hK => ?_) AllReadyH.nil; go_simp)
            (refine hK.out _ _ trivial (fun hHeld2 => ?_); clear hK K hHeld; have hHeld := hHeld2; clear hHeld2; try simp only [Act.put, List.getElem_toArray, List.getElem_cons_zero, List.getElem_cons_succ, List.setIfInBounds_toArray, List.set_cons_zero, List.set_cons_succ])
            (refine wpAnyH_ready (rs := [8]) (by kernel_rfl) (by simp) ?_; refine AllReadyH.cons (o := _) rfl (fun K hK => ?_) AllReadyH.nil)
            refine step_appB rfl (.tmp 61) (.tmp 67) 22 rfl Tryd.underlying22 info_str rfl (by decide) w2.heap.size (.slice A6 P.length c6) P.length 1 _ wr.drew #[.string (mkB y)] rfl (by simp [Value.oneCell']) rfl rfl rfl (by exact HOWN.out) (by exact hz2) (by omega) (by omega) (by decide) ?_
            intro A7 c7 w7 hown7 hb7 hg7
            obtain ⟨e1, e2, e3⟩ := app_done HF.out t24 HOWN.out hz2 ((Below.refl _ wr).drew) hg7
            have hc7' := (cells3 e1).2.2
            have hf7 := free_blk e1 2
            (refine hK.out _ _ trivial (fun hHeld2 => ?_); clear hK K hHeld; have hHeld := hHeld2; clear hHeld2; try simp only [Act.put, List.getElem_toArray, List.getElem_cons_zero, List.getElem_cons_succ, List.setIfInBounds_toArray, List.set_cons_zero, List.set_cons_succ])
            (refine wpAnyH_take (i := 9) (oi := _) (v := ?_) rfl (by kernel_rfl) (by kernel_rfl) (by kernel_rfl) (fun _ _ _ h => h) (Or.inl ⟨?_, ?_⟩) (by assumption) ?_; rotate_left; (focus (first | rfl | (simp [Region.wanted, yielded]; done))); (focus (intro w hSw; (try dsimp only at hSw); go_simp; all_goals (with_reducible rfl))); try simp only [Act.put, List.getElem_toArray, List.getElem_cons_zero, List.getElem_cons_succ, List.setIfInBounds_toArray, List.set_cons_zero, List.set_cons_succ])
            (refine wpAnyH_ready (rs := [10]) (by kernel_rfl) (by simp) ?_; refine AllReadyH.cons (o := _) rfl (fun K hK => ?_) AllReadyH.nil; go_simp)
            (refine hK.out _ _ trivial (fun hHeld2 => ?_); clear hK K hHeld; have hHeld := hHeld2; clear hHeld2; try simp only [Act.put, List.getElem_toArray, List.getElem_cons_zero, List.getElem_cons_succ, List.setIfInBounds_toArray, List.set_cons_zero, List.set_cons_succ])
            (refine wpAnyH_done (by kernel_rfl) ?_ _; refine NoPanic.normal ?_)
            clear hHeld
            have G8 : Hid ((w7.setCell ⟨B + 3, 2, none⟩ (.slice A7 (P.length + 1) c7)).heap[B + 3]? = some (.cells #[.int .i64 i, .slice A5 18 c5, .slice A7 (P.length + 1) c7] 24 (0, 0))) := Lib.hid (row_put e1 _)
            have O8 : Hid ((w7.setCell ⟨B + 3, 2, none⟩ (.slice A7 (P.length + 1) c7)).ownsRow w2.heap.size 9 1 (.slice A7 (P.length + 1) c7) (P.length + 1) (sv (P ++ [y]))) := Lib.hid (by rw [sv_app, sv_one]; exact own_set e1 t24 hown7 2 _)
            have K8 : Hid (Kx w2.heap.size (B + 3) w2 (w7.setCell ⟨B + 3, 2, none⟩ (.slice A7 (P.length + 1) c7))) := Lib.hid ((K2.out.trans (Kx.of_below e3)).set 2 _)
            have L8 : Hid (Below B w (w7.setCell ⟨B + 3, 2, none⟩ (.slice A7 (P.length + 1) c7))) := Lib.hid ((BL.out.trans (e3.mono (by omega))).setCell (by show B ≤ B + 3; omega) _)
            have R8 : Hid (Rd (w7.setCell ⟨B + 3, 2, none⟩ (.slice A7 (P.length + 1) c7)) (some ⟨b, off, none⟩) (sv L)) := Lib.hid (fun hp => by
              obtain ⟨b', off', eA, hb', hc'⟩ := HRD.out hp
              refine ⟨b', off', eA, ?_, fun q u hu => ?_⟩
              · exact Nat.lt_of_lt_of_le hb' (Nat.le_trans e3.size (KeepsWalks.setCell w7 ⟨B + 3, 2, none⟩ (.slice A7 (P.length + 1) c7)).size)
              · refine (World.cell?_of_block (a := ⟨b', off' + q, none⟩) ?_).trans (hc' q u hu)
                refine (Below.heap_setCell _ _ _ _ (by show b' ≠ B + 3; exact HANE.out _ eA)).trans ((hg7.block b' (by simp; omega) (fun e => HSEP.out b' e.symm _ eA rfl)).trans ?_)
                exact (alloc_old _ _ (by exact hb')).trans rfl)
            have Z8 : Hid (w2.heap.size ≤ (w7.setCell ⟨B + 3, 2, none⟩ (.slice A7 (P.length + 1) c7)).heap.size) := Lib.hid (Nat.le_trans (Nat.le_trans hz2 e3.size) (KeepsWalks.setCell w7 ⟨B + 3, 2, none⟩ (.slice A7 (P.length + 1) c7)).size)
            clear e1 e2 e3 hown7 hb7 hg7 hc7' hf7 x0 x1 x2 hel
            have AA := Lib.hid (above_any (some ⟨b, off, none⟩) L.length c (2 ^ k) L _ rfl HL2.out P0 P1k hc1 (by exact hc2) HSZ.out (HT.out.keep (HW.out ▸ L8.out)) R8.out)
            generalize hw8 : w7.setCell ⟨B + 3, 2, none⟩ (.slice A7 (P.length + 1) c7) = w8 at *
            generalize Sl.up L = U at *
            go_wp2_with fail
            refine AA.out.mono ?_
            rintro e w9 ⟨A', c', rfl, hc3, hc4, hrd9, hb9, hfr9⟩
            have NX : Hid (LvR w w2 B i h PS (.slice A5 18 c5) (.slice A' U.length c') (.int .i64 ((j : Int) / 2)) w9) := Lib.hid ⟨k, U, A', c', j / 2, P ++ [y], .slice A7 (P.length + 1) c7, rfl, JV.out, by omega, UH.out, hc3, hc4, US.out, J2.out, HP2.out, hrd9, (hb9.block (B + 3) (lt_of_block G8.out)).trans G8.out, by rw [show (P ++ [y]).length = P.length + 1 by simp]; exact own_below O8.out hb9 (Nat.le_refl _), fun g hg p hp => by have := (O8.out.lt g hg).2; have := hfr9 p hp; omega, fun p hp => by have := hfr9 p hp; have := lt_of_block G8.out; omega, K8.out.trans (Kx.of_below (hb9.mono Z8.out)), L8.out.trans (hb9.mono (by have := lt_of_block G8.out; omega)), Nat.le_trans Z8.out hb9.size⟩
            clear hc3 hc4 hrd9 hb9 hfr9
            go_wp2_with fail
            exact ⟨NX, by simpa [slLen] using UM.out⟩
          · go_simp
            (refine hK.out _ _ trivial (fun hHeld2 => ?_); clear hK K hHeld; have hHeld := hHeld2; clear hHeld2; try simp only [Act.put, List.getElem_toArray, List.getElem_cons_zero, List.getElem_cons_succ, List.setIfInBounds_toArray, List.set_cons_zero, List.set_cons_succ])
            (refine wpAnyH_ready (rs := [1]) (by kernel_rfl) (by simp) ?_; refine AllReadyH.cons (o := _) rfl (fun K hK => ?_) AllReadyH.nil; go_simp)
            (refine hK.out _ _ trivial (fun hHeld2 => ?_); clear hK K hHeld; have hHeld := hHeld2; clear hHeld2; try simp only [Act.put, List.getElem_toArray, List.getElem_cons_zero, List.getElem_cons_succ, List.setIfInBounds_toArray, List.set_cons_zero, List.set_cons_succ])
            (refine wpAnyH_ready (rs := [8]) (by kernel_rfl) (by simp) ?_; refine AllReadyH.cons (o := _) rfl (fun K hK => ?_) AllReadyH.nil)
            refine step_appB rfl (.tmp 61) (.tmp 67) 22 rfl Tryd.underlying22 info_str rfl (by decide) w2.heap.size (.slice A6 P.length c6) P.length 1 _ wr.drew #[.string (mkB y)] rfl (by simp [Value.oneCell']) rfl rfl rfl (by exact HOWN.out) (by exact hz2) (by omega) (by omega) (by decide) ?_
            intro A7 c7 w7 hown7 hb7 hg7
            obtain ⟨e1, e2, e3⟩ := app_done HF.out t24 HOWN.out hz2 ((Below.refl _ wr).drew) hg7
            have hc7' := (cells3 e1).2.2
            have hf7 := free_blk e1 2
            (refine hK.out _ _ trivial (fun hHeld2 => ?_); clear hK K hHeld; have hHeld := hHeld2; clear hHeld2; try simp only [Act.put, List.getElem_toArray, List.getElem_cons_zero, List.getElem_cons_succ, List.setIfInBounds_toArray, List.set_cons_zero, List.set_cons_succ])
            (refine wpAnyH_take (i := 9) (oi := _) (v := ?_) rfl (by kernel_rfl) (by kernel_rfl) (by kernel_rfl) (fun _ _ _ h => h) (Or.inl ⟨?_, ?_⟩) (by assumption) ?_; rotate_left; (focus (first | rfl | (simp [Region.wanted, yielded]; done))); (focus (intro w hSw; (try dsimp only at hSw); go_simp; all_goals (with_reducible rfl))); try simp only [Act.put, List.getElem_toArray, List.getElem_cons_zero, List.getElem_cons_succ, List.setIfInBounds_toArray, List.set_cons_zero, List.set_cons_succ])
            (refine wpAnyH_ready (rs := [10]) (by kernel_rfl) (by simp) ?_; refine AllReadyH.cons (o := _) rfl (fun K hK => ?_) AllReadyH.nil; go_simp)
            (refine hK.out _ _ trivial (fun hHeld2 => ?_); clear hK K hHeld; have hHeld := hHeld2; clear hHeld2; try simp only [Act.put, List.getElem_toArray, List.getElem_cons_zero, List.getElem_cons_succ, List.setIfInBounds_toArray, List.set_cons_zero, List.set_cons_succ])
            (refine wpAnyH_done (by kernel_rfl) ?_ _; refine NoPanic.normal ?_)
            clear hHeld
            have G8 : Hid ((w7.setCell ⟨B + 3, 2, none⟩ (.slice A7 (P.length + 1) c7)).heap[B + 3]? = some (.cells #[.int .i64 i, .slice A5 18 c5, .slice A7 (P.length + 1) c7] 24 (0, 0))) := Lib.hid (row_put e1 _)
            have O8 : Hid ((w7.setCell ⟨B + 3, 2, none⟩ (.slice A7 (P.length + 1) c7)).ownsRow w2.heap.size 9 1 (.slice A7 (P.length + 1) c7) (P.length + 1) (sv (P ++ [y]))) := Lib.hid (by rw [sv_app, sv_one]; exact own_set e1 t24 hown7 2 _)
            have K8 : Hid (Kx w2.heap.size (B + 3) w2 (w7.setCell ⟨B + 3, 2, none⟩ (.slice A7 (P.length + 1) c7))) := Lib.hid ((K2.out.trans (Kx.of_below e3)).set 2 _)
            have L8 : Hid (Below B w (w7.setCell ⟨B + 3, 2, none⟩ (.slice A7 (P.length + 1) c7))) := Lib.hid ((BL.out.trans (e3.mono (by omega))).setCell (by show B ≤ B + 3; omega) _)
            have R8 : Hid (Rd (w7.setCell ⟨B + 3, 2, none⟩ (.slice A7 (P.length + 1) c7)) (some ⟨b, off, none⟩) (sv L)) := Lib.hid (fun hp => by
              obtain ⟨b', off', eA, hb', hc'⟩ := HRD.out hp
              refine ⟨b', off', eA, ?_, fun q u hu => ?_⟩
              · exact Nat.lt_of_lt_of_le hb' (Nat.le_trans e3.size (KeepsWalks.setCell w7 ⟨B + 3, 2, none⟩ (.slice A7 (P.length + 1) c7)).size)
              · refine (World.cell?_of_block (a := ⟨b', off' + q, none⟩) ?_).trans (hc' q u hu)
                refine (Below.heap_setCell _ _ _ _ (by show b' ≠ B + 3; exact HANE.out _ eA)).trans ((hg7.block b' (by simp; omega) (fun e => HSEP.out b' e.symm _ eA rfl)).trans ?_)
                exact (alloc_old _ _ (by exact hb')).trans rfl)
            have Z8 : Hid (w2.heap.size ≤ (w7.setCell ⟨B + 3, 2, none⟩ (.slice A7 (P.length + 1) c7)).heap.size) := Lib.hid (Nat.le_trans (Nat.le_trans hz2 e3.size) (KeepsWalks.setCell w7 ⟨B + 3, 2, none⟩ (.slice A7 (P.length + 1) c7)).size)
            clear e1 e2 e3 hown7 hb7 hg7 hc7' hf7 x0 x1 x2 hel
            have AA := Lib.hid (above_any (some ⟨b, off, none⟩) L.length c (2 ^ k) L _ rfl HL2.out P0 P1k hc1 (by exact hc2) HSZ.out (HT.out.keep (HW.out ▸ L8.out)) R8.out)
            generalize hw8 : w7.setCell ⟨B + 3, 2, none⟩ (.slice A7 (P.length + 1) c7) = w8 at *
            generalize Sl.up L = U at *
            go_wp2_with fail
            refine AA.out.mono ?_
            rintro e w9 ⟨A', c', rfl, hc3, hc4, hrd9, hb9, hfr9⟩
            have NX : Hid (LvR w w2 B i h PS (.slice A5 18 c5) (.slice A' U.length c') (.int .i64 ((j : Int) / 2)) w9) := Lib.hid ⟨k, U, A', c', j / 2, P ++ [y], .slice A7 (P.length + 1) c7, rfl, JV.out, by omega, UH.out, hc3, hc4, US.out, J2.out, HP2.out, hrd9, (hb9.block (B + 3) (lt_of_block G8.out)).trans G8.out, by rw [show (P ++ [y]).length = P.length + 1 by simp]; exact own_below O8.out hb9 (Nat.le_refl _), fun g hg p hp => by have := (O8.out.lt g hg).2; have := hfr9 p hp; omega, fun p hp => by have := hfr9 p hp; have := lt_of_block G8.out; omega, K8.out.trans (Kx.of_below (hb9.mono Z8.out)), L8.out.trans (hb9.mono (by have := lt_of_block G8.out; omega)), Nat.le_trans Z8.out hb9.size⟩
            clear hc3 hc4 hrd9 hb9 hfr9
            go_wp2_with fail
            exact ⟨NX, by simpa [slLen] using UM.out⟩
  case stop =>
    rintro D c pre W _ _ h _
    exact h.elim
end Go.Proofs.YthceonkdmcidcaaDoor
