/- WALKS: New, Open, Close of shelves. -/
import Derived.Test.YtfhgidbmeifflaaNB
import Derived.Deep.RegionHeld3
set_option linter.unusedSimpArgs false
set_option linter.unusedVariables false
namespace Go.Proofs.Ytfhgidbmeifflaa
open Go.RowKit Go.Maps Go.ChangeMaps Go.MapKept Go.WideShapes Go.WideMaps

theorem ShMem.row_ne {w : World} {p : Nat} {F : Nat → Prop} {s : Sh} {bm br nk : Nat} {hd : List UInt8 → Option Value} (h : ShMem w p F s bm br nk hd) {t : List UInt8} {v : Value} {g : Nat} (hv : hd t = some v) (hg : v.ownBlock = some g) : g ≠ p ∧ g ≠ bm ∧ g ≠ br := by
  obtain ⟨-, -, h2⟩ := h.row t v hv
  have hb : ∃ cur, w.heap[g]? = some (.cells cur 62 (0, 0)) := by
    rcases h2 with ⟨e, _⟩ | ⟨g', cap, cur, e, _, hh, _⟩
    · rw [e] at hg; cases hg
    · rw [e] at hg; cases hg; exact ⟨cur, hh⟩
  obtain ⟨cur, hb⟩ := hb
  refine ⟨?_, ?_, ?_⟩ <;> rintro rfl
  · have := hb.symm.trans h.blk; cases this
  · obtain ⟨D, ⟨es, cl, hm, _⟩, _⟩ := h.km; have := hb.symm.trans hm; cases this
  · obtain ⟨D, ⟨es, cl, hm, _⟩, _⟩ := h.rm; have := hb.symm.trans hm; cases this
theorem ShMem.ne_p {w : World} {p : Nat} {F : Nat → Prop} {s : Sh} {bm br nk : Nat} {hd : List UInt8 → Option Value} (h : ShMem w p F s bm br nk hd) : bm ≠ p ∧ br ≠ p := by
  constructor <;> rintro rfl
  · obtain ⟨D, ⟨es, cl, hm, _⟩, _⟩ := h.km; have := hm.symm.trans h.blk; cases this
  · obtain ⟨D, ⟨es, cl, hm, _⟩, _⟩ := h.rm; have := hm.symm.trans h.blk; cases this
/-- the histories stay -/
theorem ShMem.same_keys {w w' : World} {p : Nat} {F : Nat → Prop} {s s' : Sh} {bm br nk : Nat} {hd : List UInt8 → Option Value} (h : ShMem w p F s bm br nk hd) (hz : w.heap.size ≤ w'.heap.size)
    (hrow : ∀ g, F g → g ≠ p → g ≠ br → w'.heap[g]? = w.heap[g]?)
    (blk : w'.heap[p]? = some (.cells #[.int .i64 (s'.ver : Int), .int .i64 (s'.clk : Int), .map (some bm), .map (some br), .int .i64 (s'.opn : Int)] 53 (0, 0)))
    (rm : MapAt w' Try.prog 3 br (rdM s'.rd) s'.nrd) (hk : s'.keys = s.keys) (hl : s.lim ≤ s'.lim) : ShMem w' p F s' bm br nk hd := by
  have hkeep : ∀ t v g, hd t = some v → v.ownBlock = some g → w'.heap[g]? = w.heap[g]? := fun t v g hv hg => by
    obtain ⟨n1, n2, n3⟩ := h.row_ne hv hg
    exact hrow g (h.frow t v g hv hg) n1 n3
  refine ⟨blk, h.km.same (hrow _ h.fm h.ne_p.1 h.ne), rm, fun t ht => by rw [hk]; exact h.none_ t ht, fun t v hv => ?_, h.sep, h.fp, h.fm, h.fr, h.frow, h.ne, Nat.le_trans h.nk hl, fun g hg => Nat.lt_of_lt_of_le (h.lt g hg) hz⟩
  rw [hk]
  refine ⟨(h.row t v hv).1, ?_⟩
  obtain ⟨h1, h2⟩ := (h.row t v hv).2
  refine ⟨h1, ?_⟩
  rcases h2 with h2 | ⟨g, cap, cur, e, hg, hh, rest⟩
  · exact .inl h2
  · exact .inr ⟨g, cap, cur, e, hg, (hkeep t v g hv (by rw [e]; rfl)).trans hh, rest⟩

def newS : Sh := ⟨0, 0, 0, fun _ => [], fun _ => none, 0, 0⟩
def setN (f : Nat → Option Nat) (r : Nat) (v : Option Nat) : Nat → Option Nat := fun x => if x = r then v else f x
def openF (s : Sh) : Sh × Nat × Nat := if s.nrd = 64 then (s, 0, 21) else ({ s with opn := s.opn + 1, rd := setN s.rd (s.opn + 1) (some s.clk), nrd := s.nrd + 1 }, s.opn + 1, 0)
def closeF (s : Sh) (r : Nat) : Sh × Nat :=
  match s.rd r with
  | none => (s, 20)
  | some _ => ({ s with rd := setN s.rd r none, nrd := s.nrd - 1 }, 0)
/-- a shelf after a call that may change it -/
def ShPost (w : World) (p : Nat) (F : Nat → Prop) (s' : Sh) (w' : World) : Prop :=
  ∃ F' : Nat → Prop, ShAt w' p F' s' ∧ (∀ g, F' g → F g ∨ w.heap.size ≤ g) ∧ But F w w'
theorem same_int {x y : Int} : (Lit.int .i64 x).sameKey (.int .i64 y) = decide (x = y) := by
  simp [Lit.sameKey]
theorem rdM_set (rd : Nat → Option Nat) (r c : Nat) (n : Nat) : updM (rdM rd) (.int .i64 (r : Int)) (.int .i64 (c : Int)) = rdM (setN rd r (some c)) := by
  funext kl
  unfold updM
  by_cases e : kl = .int .i64 (r : Int)
  · subst e
    rw [if_pos (by simp [same_int]), rdM_nat]
    simp [setN]
  · rw [if_neg (by rw [Maps.sameKey_ne e]; simp)]
    cases kl with
    | int k x =>
      cases k with
      | i64 =>
        show (if (0 : Int) ≤ x then (rd x.toNat).map (fun c : Nat => Value.int .i64 (c : Int)) else none) = (if (0 : Int) ≤ x then (setN rd r (some c) x.toNat).map (fun c : Nat => Value.int .i64 (c : Int)) else none)
        by_cases hx : 0 ≤ x
        · have : x.toNat ≠ r := fun h => e (by rw [← h, Int.toNat_of_nonneg hx])
          simp [setN, this]
        · simp [hx]
      | _ => rfl
    | _ => rfl
theorem rdM_del (rd : Nat → Option Nat) (r : Nat) : delM (rdM rd) (.int .i64 (r : Int)) = rdM (setN rd r none) := by
  funext kl
  unfold delM
  by_cases e : kl = .int .i64 (r : Int)
  · subst e
    rw [if_pos (by simp [same_int]), rdM_nat]
    simp [setN]
  · rw [if_neg (by rw [Maps.sameKey_ne e]; simp)]
    cases kl with
    | int k x =>
      cases k with
      | i64 =>
        show (if (0 : Int) ≤ x then (rd x.toNat).map (fun c : Nat => Value.int .i64 (c : Int)) else none) = (if (0 : Int) ≤ x then (setN rd r none x.toNat).map (fun c : Nat => Value.int .i64 (c : Int)) else none)
        by_cases hx : 0 ≤ x
        · have : x.toNat ≠ r := fun h => e (by rw [← h, Int.toNat_of_nonneg hx])
          simp [setN, this]
        · simp [hx]
      | _ => rfl
    | _ => rfl
theorem But.grown {F : Nat → Prop} {w w' : World} {b : Nat} (h : w.grownBy w' (some b)) (hb : F b) : But F w w' :=
  ⟨h.os, h.tape, h.output, h.size, fun k hk hx => h.block k hk (fun e => by cases e; exact hx hb)⟩
set_option maxHeartbeats 4000000 in
set_option maxRecDepth 100000 in
theorem close_any (p : Nat) (F : Nat → Prop) (s : Sh) (r : Nat) (w : World) (h : ShAt w p F s) (hr : r ≤ 1000000) :
    Calls Try.prog 21 #[.pointer (some ⟨p, 0, none⟩), .int .i64 (r : Int)] w fun e w' => e = .returned (.int .i64 ((closeF s r).2 : Int)) ∧ ShPost w p F (closeF s r).1 w' := by
  obtain ⟨bm, br, nk, hd, h⟩ := h
  have H := Lib.hid h
  obtain ⟨x0, x1, x2, x3, x4⟩ := h.cells
  have lr := h.look_rd r hr
  obtain ⟨w1, dl, hm, hg⟩ := h.rm.del intK Try.underlying51 (key_nat r hr) 0
  have HM := Lib.hid hm
  have HG := Lib.hid hg
  have HRF : Hid (closeF s r = match s.rd r with | none => (s, 20) | some _ => ({ s with rd := setN s.rd r none, nrd := s.nrd - 1 }, 0)) := Lib.hid rfl
  have HC := Lib.hid (rdM_del s.rd r)
  generalize closeF s r = RR at *
  clear h hm hg
  cases hrd : s.rd r with
  | none =>
    rw [hrd] at lr HRF
    go_enter Try.func21, Try.ntmps21
    go_wp2_with fail
    go_ret
    exact ⟨by rw [HRF.out]; rfl, by rw [HRF.out]; exact ⟨F, ⟨bm, br, nk, hd, H.out⟩, fun g hg => .inl hg, But.refl _ _⟩⟩
  | some cl =>
    rw [hrd] at lr HRF
    go_enter Try.func21, Try.ntmps21
    go_wp2_with fail
    go_ret
    refine ⟨by rw [HRF.out]; rfl, by
      rw [HRF.out]
      have hb : br ≠ p := H.out.ne_p.2
      refine ⟨F, ⟨bm, br, nk, hd, H.out.same_keys HG.out.size (fun g hg _ hn => HG.out.block g (H.out.lt g hg) (fun e => by cases e; exact hn rfl)) ((HG.out.block p (H.out.lt p H.out.fp) (fun e => by cases e; exact hb rfl)).trans H.out.blk) ?_ rfl (Nat.le_refl _)⟩, fun g hg => .inl hg, But.grown HG.out H.out.fr⟩
      have := HM.out
      rw [HC.out, rdM_nat, hrd] at this
      exact this⟩
/-- the shelf's own block stands -/
def KeepB (p : Nat) (o : Obj) (w : World) : Prop := w.heap[p]? = some o
/-- a nil shelf -/
theorem open_nil (w : World) : Calls Try.prog 19 #[.pointer none] w fun e w' => e = .returned (.tuple #[.int .i64 0, .int .i64 1]) ∧ w' = w := by
  go_enter Try.func19, Try.ntmps19
  go_wp2_with fail
  go_ret2
  exact ⟨rfl, rfl⟩
set_option maxHeartbeats 4000000 in
set_option maxRecDepth 100000 in
theorem open_any (p : Nat) (F : Nat → Prop) (s : Sh) (w : World) (hI : ShInv s) (hn : s.nrd ≤ 64) (h : ShAt w p F s) :
    Calls Try.prog 19 #[.pointer (some ⟨p, 0, none⟩)] w fun e w' => e = .returned (.tuple #[.int .i64 ((openF s).2.1 : Int), .int .i64 ((openF s).2.2 : Int)]) ∧ ShPost w p F (openF s).1 w' := by
  obtain ⟨bm, br, nk, hd, h⟩ := h
  have H := Lib.hid h
  obtain ⟨x0, x1, x2, x3, x4⟩ := h.cells
  have ln := h.rm.len Try.underlying51 3
  have hop := hI.opn
  have hf : w.frozen? ⟨p, 4, none⟩ = false := free_blk h.blk 4
  have HI := Lib.hid hI
  have HRF : Hid (openF s = if s.nrd = 64 then (s, 0, 21) else ({ s with opn := s.opn + 1, rd := setN s.rd (s.opn + 1) (some s.clk), nrd := s.nrd + 1 }, s.opn + 1, 0)) := Lib.hid rfl
  generalize openF s = RR at *
  clear h hI
  by_cases h64 : s.nrd = 64
  · have d : (s.nrd : Int) = 64 := by omega
    have RE : Hid (RR = (s, 0, 21)) := Lib.hid (by rw [HRF.out, if_pos h64])
    go_enter Try.func19, Try.ntmps19
    go_wp2_with fail
    go_ret2
    exact ⟨by rw [RE.out]; rfl, by rw [RE.out]; exact ⟨F, ⟨bm, br, nk, hd, H.out⟩, fun g hg => .inl hg, But.refl _ _⟩⟩
  · have d : ¬ (s.nrd : Int) = 64 := by omega
    have RE : Hid (RR = ({ s with opn := s.opn + 1, rd := setN s.rd (s.opn + 1) (some s.clk), nrd := s.nrd + 1 }, s.opn + 1, 0)) := Lib.hid (by rw [HRF.out, if_neg h64])
    obtain ⟨u0, hu0⟩ : ∃ u, u = w.setCell ⟨p, 4, none⟩ (.int .i64 (s.opn + 1)) := ⟨_, rfl⟩
    have j1 : (s.opn : Int) + 1 ≤ 10001 := by omega
    go_enter Try.func19, Try.ntmps19
    go_wp2_with fail
    rw [← hu0]
    have B0 : KeepB p (.cells #[.int .i64 (s.ver : Int), .int .i64 (s.clk : Int), .map (some bm), .map (some br), .int .i64 ((s.opn : Int) + 1)] 53 (0, 0)) u0.drew := by
      show u0.heap[p]? = _
      rw [hu0]
      simp [World.setCell, Array.getElem?_modify, H.out.blk]
    have bel : But (fun g => g = p) w u0 := by rw [hu0]; exact But.set (X := fun g => g = p) (But.refl _ _) rfl _
    obtain ⟨u1, hup, hm1, hg1⟩ := (show MapAt u0.drew Try.prog 3 br (rdM s.rd) s.nrd from H.out.rm.same (bel.block br (H.out.lt br H.out.fr) H.out.ne_p.2)).upd intK Try.underlying51 (by unfold maxLen; omega) (key_nat (s.opn + 1) (by omega)) (.int .i64 (s.clk : Int))
    have HM := Lib.hid hm1; have HG := Lib.hid hg1; have BL := Lib.hid bel; have HB0 := Lib.hid B0
    rw [show (((s.opn + 1 : Nat)) : Int) = (s.opn : Int) + 1 from by omega] at hup
    clear hm1 hg1 bel hu0 x0 x1 x2 x3 x4 ln hf
    have C1 : ∀ w', KeepB p (.cells #[.int .i64 (s.ver : Int), .int .i64 (s.clk : Int), .map (some bm), .map (some br), .int .i64 ((s.opn : Int) + 1)] 53 (0, 0)) w' → w'.cell? ⟨p, 1, none⟩ = some (.int .i64 (s.clk : Int)) := fun w' h => cell_of_row w' p 1 _ _ _ h
    have C3 : ∀ w', KeepB p (.cells #[.int .i64 (s.ver : Int), .int .i64 (s.clk : Int), .map (some bm), .map (some br), .int .i64 ((s.opn : Int) + 1)] 53 (0, 0)) w' → w'.cell? ⟨p, 3, none⟩ = some (.map (some br)) := fun w' h => cell_of_row w' p 3 _ _ _ h
    have C4 : ∀ w', KeepB p (.cells #[.int .i64 (s.ver : Int), .int .i64 (s.clk : Int), .map (some bm), .map (some br), .int .i64 ((s.opn : Int) + 1)] 53 (0, 0)) w' → w'.cell? ⟨p, 4, none⟩ = some (.int .i64 ((s.opn : Int) + 1)) := fun w' h => cell_of_row w' p 4 _ _ _ h
    (refine wp_region_noPanic ?_; refine wp_region_held_drew (S := (fun w' => KeepB p (.cells #[.int .i64 (s.ver : Int), .int .i64 (s.clk : Int), .map (some bm), .map (some br), .int .i64 ((s.opn : Int) + 1)] 53 (0, 0)) w')) (by kernel_rfl) ?_ (fun hHeld => ?_); exact B0)
    (refine wpAnyH_take (i := 0) (oi := _) (v := ?_) rfl (by kernel_rfl) (by kernel_rfl) (by kernel_rfl) (fun _ _ _ h => h) (Or.inl ⟨?_, ?_⟩) (by assumption) ?_; rotate_left; (focus (first | rfl | (simp [Region.wanted, yielded]; done))); (focus (intro w hSw; (try dsimp only at hSw); go_simp; all_goals (with_reducible rfl))); try simp only [Act.put, List.getElem_toArray, List.getElem_cons_zero, List.getElem_cons_succ, List.setIfInBounds_toArray, List.set_cons_zero, List.set_cons_succ])
    (refine wpAnyH_take (i := 1) (oi := _) (v := ?_) rfl (by kernel_rfl) (by kernel_rfl) (by kernel_rfl) (fun _ _ _ h => h) (Or.inl ⟨?_, ?_⟩) (by assumption) ?_; rotate_left; (focus (first | rfl | (simp [Region.wanted, yielded]; done))); (focus (intro w hSw; (try dsimp only at hSw); go_simp; all_goals (with_reducible rfl))); try simp only [Act.put, List.getElem_toArray, List.getElem_cons_zero, List.getElem_cons_succ, List.setIfInBounds_toArray, List.set_cons_zero, List.set_cons_succ])
    (refine wpAnyH_take (i := 2) (oi := _) (v := ?_) rfl (by kernel_rfl) (by kernel_rfl) (by kernel_rfl) (fun _ _ _ h => h) (Or.inl ⟨?_, ?_⟩) (by assumption) ?_; rotate_left; (focus (first | rfl | (simp [Region.wanted, yielded]; done))); (focus (intro w hSw; (try dsimp only at hSw); go_simp; all_goals (with_reducible rfl))); try simp only [Act.put, List.getElem_toArray, List.getElem_cons_zero, List.getElem_cons_succ, List.setIfInBounds_toArray, List.set_cons_zero, List.set_cons_succ])
    (refine wpAnyH_take (i := 3) (oi := _) (v := ?_) rfl (by kernel_rfl) (by kernel_rfl) (by kernel_rfl) (fun _ _ _ h => h) (Or.inl ⟨?_, ?_⟩) (by assumption) ?_; rotate_left; (focus (first | rfl | (simp [Region.wanted, yielded]; done))); (focus (intro w hSw; (try dsimp only at hSw); go_simp; all_goals (with_reducible rfl))); try simp only [Act.put, List.getElem_toArray, List.getElem_cons_zero, List.getElem_cons_succ, List.setIfInBounds_toArray, List.set_cons_zero, List.set_cons_succ])
    (refine wpAnyH_take (i := 4) (oi := _) (v := ?_) rfl (by kernel_rfl) (by kernel_rfl) (by kernel_rfl) (fun _ _ _ h => h) (Or.inl ⟨?_, ?_⟩) (by assumption) ?_; rotate_left; (focus (first | rfl | (simp [Region.wanted, yielded]; done))); (focus (intro w hSw; (try dsimp only at hSw); go_simp; all_goals (with_reducible rfl))); try simp only [Act.put, List.getElem_toArray, List.getElem_cons_zero, List.getElem_cons_succ, List.setIfInBounds_toArray, List.set_cons_zero, List.set_cons_succ])
    (refine wpAnyH_take (i := 5) (oi := _) (v := ?_) rfl (by kernel_rfl) (by kernel_rfl) (by kernel_rfl) (fun _ _ _ h => h) (Or.inl ⟨?_, ?_⟩) (by assumption) ?_; rotate_left; (focus (first | rfl | (simp [Region.wanted, yielded]; done))); (focus (intro w hSw; (try dsimp only at hSw); go_simp; all_goals (with_reducible rfl))); try simp only [Act.put, List.getElem_toArray, List.getElem_cons_zero, List.getElem_cons_succ, List.setIfInBounds_toArray, List.set_cons_zero, List.set_cons_succ])
    (refine wpAnyH_take (i := 6) (oi := _) (v := ?_) rfl (by kernel_rfl) (by kernel_rfl) (by kernel_rfl) (fun _ _ _ h => h) (Or.inl ⟨?_, ?_⟩) (by assumption) ?_; rotate_left; (focus (first | rfl | (simp [Region.wanted, yielded]; done))); (focus (intro w hSw; (try dsimp only at hSw); go_simp; all_goals (with_reducible rfl))); try simp only [Act.put, List.getElem_toArray, List.getElem_cons_zero, List.getElem_cons_succ, List.setIfInBounds_toArray, List.set_cons_zero, List.set_cons_succ])
    (refine wpAnyH_take (i := 7) (oi := _) (v := ?_) rfl (by kernel_rfl) (by kernel_rfl) (by kernel_rfl) (fun _ _ _ h => h) (Or.inl ⟨?_, ?_⟩) (by assumption) ?_; rotate_left; (focus (first | rfl | (simp [Region.wanted, yielded]; done))); (focus (intro w hSw; (try dsimp only at hSw); go_simp; all_goals (with_reducible rfl))); try simp only [Act.put, List.getElem_toArray, List.getElem_cons_zero, List.getElem_cons_succ, List.setIfInBounds_toArray, List.set_cons_zero, List.set_cons_succ])
    (refine wpAnyH_take (i := 8) (oi := _) (v := ?_) rfl (by kernel_rfl) (by kernel_rfl) (by kernel_rfl) (fun _ _ _ h => h) (Or.inl ⟨?_, ?_⟩) (by assumption) ?_; rotate_left; (focus (first | rfl | (simp [Region.wanted, yielded]; done))); (focus (intro w hSw; (try dsimp only at hSw); go_simp; all_goals (with_reducible rfl))); try simp only [Act.put, List.getElem_toArray, List.getElem_cons_zero, List.getElem_cons_succ, List.setIfInBounds_toArray, List.set_cons_zero, List.set_cons_succ])
    (refine wpAnyH_take (i := 9) (oi := _) (v := ?_) rfl (by kernel_rfl) (by kernel_rfl) (by kernel_rfl) (fun _ _ _ h => h) (Or.inl ⟨?_, ?_⟩) (by assumption) ?_; rotate_left; (focus (first | rfl | (simp [Region.wanted, yielded]; done))); (focus (intro w hSw; (try dsimp only at hSw); go_simp; all_goals (with_reducible rfl))); try simp only [Act.put, List.getElem_toArray, List.getElem_cons_zero, List.getElem_cons_succ, List.setIfInBounds_toArray, List.set_cons_zero, List.set_cons_succ])
    (refine wpAnyH_take (i := 10) (oi := _) (v := ?_) rfl (by kernel_rfl) (by kernel_rfl) (by kernel_rfl) (fun _ _ _ h => h) (Or.inl ⟨?_, ?_⟩) (by assumption) ?_; rotate_left; (focus (first | rfl | (simp [Region.wanted, yielded]; done))); (focus (intro w hSw; (try dsimp only at hSw); go_simp; all_goals (with_reducible rfl))); try simp only [Act.put, List.getElem_toArray, List.getElem_cons_zero, List.getElem_cons_succ, List.setIfInBounds_toArray, List.set_cons_zero, List.set_cons_succ])
    (refine wpAnyH_take (i := 11) (oi := _) (v := ?_) rfl (by kernel_rfl) (by kernel_rfl) (by kernel_rfl) (fun _ _ _ h => h) (Or.inl ⟨?_, ?_⟩) (by assumption) ?_; rotate_left; (focus (first | rfl | (simp [Region.wanted, yielded]; done))); (focus (intro w hSw; (try dsimp only at hSw); go_simp; all_goals (with_reducible rfl))); try simp only [Act.put, List.getElem_toArray, List.getElem_cons_zero, List.getElem_cons_succ, List.setIfInBounds_toArray, List.set_cons_zero, List.set_cons_succ])
    have B1 : KeepB p (.cells #[.int .i64 (s.ver : Int), .int .i64 (s.clk : Int), .map (some bm), .map (some br), .int .i64 ((s.opn : Int) + 1)] 53 (0, 0)) u1 := (HG.out.block p (lt_of_block B0) (fun e => by cases e; exact H.out.ne_p.2 rfl)).trans B0
    have c4 := C4 _ B1
    (refine wpAnyH_ready (rs := [12]) (by kernel_rfl) (by simp) ?_; refine AllReadyH.cons (o := _) rfl (fun K hK => ?_) AllReadyH.nil; go_simp)
    (refine hK.out _ _ B1 (fun hHeld2 => ?_); clear hK K hHeld; have hHeld := hHeld2; clear hHeld2; try simp only [Act.put, List.getElem_toArray, List.getElem_cons_zero, List.getElem_cons_succ, List.setIfInBounds_toArray, List.set_cons_zero, List.set_cons_succ])
    (refine wpAnyH_done (by kernel_rfl) ?_ _; refine NoPanic.normal ?_)
    clear hHeld C1 C3 C4 hup
    go_wp2_with fail
    go_ret2
    have hr0 : s.rd (s.opn + 1) = none := by
      cases e : s.rd (s.opn + 1) with
      | none => rfl
      | some c => have := (HI.out.rdc _ _ e).2; omega
    refine ⟨by rw [RE.out]; rfl, ?_⟩
    rw [RE.out]
    have hb01 : But F w u1 := by
      refine But.trans (b := u0) ⟨BL.out.os, BL.out.tape, BL.out.output, BL.out.size, fun k hk hx => BL.out.block k hk (fun e => hx (e ▸ H.out.fp))⟩ ?_
      exact But.grown ⟨HG.out.os, HG.out.tape, HG.out.output, HG.out.size, HG.out.block⟩ H.out.fr
    refine ⟨F, ⟨bm, br, nk, hd, H.out.same_keys hb01.size (fun g hg h1 h2 => ?_) B1 ?_ rfl (Nat.le_refl _)⟩, fun g hg => .inl hg, hb01⟩
    · exact (HG.out.block g (Nat.lt_of_lt_of_le (H.out.lt g hg) BL.out.size) (fun e => by cases e; exact h2 rfl)).trans (BL.out.block g (H.out.lt g hg) h1)
    · have := HM.out
      rw [rdM_set _ _ _ 0, rdM_nat, hr0] at this
      exact this
end Go.Proofs.Ytfhgidbmeifflaa
