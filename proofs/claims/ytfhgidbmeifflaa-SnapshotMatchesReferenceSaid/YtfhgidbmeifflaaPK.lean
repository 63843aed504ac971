/- PLAIN: an operation on both shelves. -/
import Derived.Test.YtfhgidbmeifflaaPJ
set_option linter.unusedSimpArgs false
set_option linter.unusedVariables false
namespace Go.Proofs.Ytfhgidbmeifflaa
open Go.RowKit Go.Maps Go.ChangeMaps Go.MapKept Go.WideShapes Go.WideMaps

theorem Rel.limit {s : Sh} {t : RSh} {N : Tx → Nat → Nat} (h : Rel s t N) (a : Nat) : Rel { s with lim := a } t N :=
  ⟨h.ord, h.upto, h.rdc, h.ver, h.opn, h.rds, h.isb, h.cnt, h.fg, h.pos, h.inj, h.kept, h.kup, h.new, h.nf, h.rd, h.sup⟩
theorem getP_isSome (ps : List (Tx × Tx)) (t : Tx) : (getP ps t).isSome = decide (t ∈ ps.map (·.1)) := by
  induction ps with
  | nil => simp [getP]
  | cons a l ih =>
    rw [getP]
    by_cases e : t = a.1
    · rw [if_pos e]; simp [e]
    · rw [if_neg e, ih]; simp [e]
theorem Rel.write {s : Sh} {t : RSh} {N : Tx → Nat → Nat} (h : Rel s t N) {ps : List (Tx × Tx)} {d : List Tx} (hp : (∃ a, ps = [a]) ∨ ∃ a b, ps = [a, b]) (hn : (ps.map (·.1)).Nodup) (hd : d = [] ∨ ∃ x, d = [x]) :
    ∃ N', Rel (writeF s ps d).1 (rwriteF t ps d).1 N' ∧ (writeF s ps d).2 = (rwriteF t ps d).2 := by
  have e1 : d.any (fun t => (getP ps t).isSome) = d.any (fun x => decide (x ∈ ps.map (·.1))) := by
    congr 1; funext x; exact getP_isSome ps x
  unfold writeF rwriteF
  rw [e1]
  by_cases h1 : d.any (fun x => decide (x ∈ ps.map (·.1))) = true
  · rw [if_pos h1, if_pos h1]; exact ⟨N, h, rfl⟩
  rw [if_neg h1, if_neg h1]
  by_cases h2 : (longD d || longP ps) = true
  · rw [if_pos h2, if_pos h2]; exact ⟨N, h, rfl⟩
  rw [if_neg h2, if_neg h2, h.ver]
  suffices hs : ∃ N', Rel { s with ver := s.ver + 1, clk := s.clk + 1, keys := putK (s.clk + 1) (dropK (s.clk + 1) s.keys d) ps (ps.map (·.1)) } ({ rputs (rdrops t d) ps with ver := s.ver + 1 }) N' by
    obtain ⟨N', hs⟩ := hs
    exact ⟨N', hs.limit _, rfl⟩
  have T := h.tick 1
  have hr : ∀ i c, s.rd i = some c → c < s.clk + 1 := fun i c hc => Nat.lt_succ_of_le (h.rdc i c hc).1
  have hf : ∀ k, ∀ v ∈ s.keys k, v.since < s.clk + 1 := fun k v hv => Nat.lt_succ_of_le (h.upto k v hv)
  have D : Rel { s with ver := s.ver + 1, clk := s.clk + 1, keys := dropK (s.clk + 1) s.keys d } ({ rdrops t d with ver := s.ver + 1 }) N := by
    rcases hd with rfl | ⟨x, rfl⟩
    · rw [dropK_nil]
      have T2 := T
      rw [h.ver] at T2
      exact T2
    · have := T.drop x (hf x) hr
      rw [show ([x] : List Tx) = [] ++ [x] from rfl, dropK_step, dropK_nil]
      rw [h.ver] at this
      exact this
  have hk : ∀ k ∈ ps.map (·.1), dropK (s.clk + 1) s.keys d k = s.keys k := fun k hk => by
    unfold dropK
    rw [if_neg (fun hx => h1 (List.any_eq_true.2 ⟨k, hx, by simpa using hk⟩))]
  rcases hp with ⟨⟨k, x⟩, rfl⟩ | ⟨⟨k, x⟩, ⟨k', x'⟩, rfl⟩
  · have P := D.put k x (by show ∀ v ∈ dropK (s.clk + 1) s.keys d k, _; rw [hk k (by simp)]; exact hf k) hr
    have e : putK (s.clk + 1) (dropK (s.clk + 1) s.keys d) [(k, x)] [k] = setK (dropK (s.clk + 1) s.keys d) k (dropK (s.clk + 1) s.keys d k ++ [⟨s.clk + 1, x, false, false⟩]) := by
      rw [putK_step _ _ _ (List.not_mem_nil) (x := x) (by simp [getP]), putK_nil]
    obtain ⟨N1, P⟩ := (⟨_, P⟩ : ∃ N1, Rel _ _ N1)
    refine ⟨N1, ?_⟩
    show Rel { s with ver := s.ver + 1, clk := s.clk + 1, keys := putK (s.clk + 1) (dropK (s.clk + 1) s.keys d) [(k, x)] [k] } _ N1
    rw [e]
    exact P
  · have hne : k' ≠ k := by
      simp at hn
      exact fun e => hn e.symm
    have P := D.put k x (by show ∀ v ∈ dropK (s.clk + 1) s.keys d k, _; rw [hk k (by simp)]; exact hf k) hr
    have P2 := P.put k' x' (by
      show ∀ v ∈ setK (dropK (s.clk + 1) s.keys d) k _ k', _
      rw [setK_app_ne _ _ _ hne, hk k' (by simp)]; exact hf k') hr
    have e : putK (s.clk + 1) (dropK (s.clk + 1) s.keys d) [(k, x), (k', x')] [k', k] = setK (setK (dropK (s.clk + 1) s.keys d) k (dropK (s.clk + 1) s.keys d k ++ [⟨s.clk + 1, x, false, false⟩])) k' (setK (dropK (s.clk + 1) s.keys d) k (dropK (s.clk + 1) s.keys d k ++ [⟨s.clk + 1, x, false, false⟩]) k' ++ [⟨s.clk + 1, x', false, false⟩]) := by
      rw [putK_step _ _ _ (x := x') (by simpa using hne) (by simp [getP, hne]), putK_step _ _ _ (List.not_mem_nil) (x := x) (by simp [getP]), putK_nil]
    obtain ⟨N1, P2⟩ := (⟨_, P2⟩ : ∃ N1, Rel _ _ N1)
    refine ⟨N1, ?_⟩
    show Rel { s with ver := s.ver + 1, clk := s.clk + 1, keys := putK (s.clk + 1) (dropK (s.clk + 1) s.keys d) [(k, x), (k', x')] [k, k'] } _ N1
    rw [putK_same _ _ _ (b := [k', k]) (fun u => by simp [or_comm]), e]
    exact P2
/-- an operation on the reference's shelf -/
def wantF (t : RSh) (o : OpV) : RSh × Int × Nat :=
  if o.kind % 6 = 0 then ((rwriteF t o.put []).1, ((rwriteF t o.put []).2.1 : Int), (rwriteF t o.put []).2.2)
  else if o.kind % 6 = 1 then ((rwriteF t o.put [o.other]).1, ((rwriteF t o.put [o.other]).2.1 : Int), (rwriteF t o.put [o.other]).2.2)
  else if o.kind % 6 = 2 then ((ropenF t).1, ((ropenF t).2.1 : Int), (ropenF t).2.2)
  else if o.kind % 6 = 3 then ((rcloseF t o.n).1, 0, (rcloseF t o.n).2)
  else if o.kind % 6 = 4 then (rcollectF t, (t.kept.length : Int) - ((rcollectF t).kept.length : Int), 0)
  else ((rforgetF t o.key).1, 0, (rforgetF t o.key).2)
theorem put_form (o : OpV) : (∃ a, o.put = [a]) ∨ ∃ a b, o.put = [a, b] := by
  unfold OpV.put
  split
  · exact .inr ⟨_, _, rfl⟩
  · exact .inl ⟨_, rfl⟩
theorem Rel.op {s : Sh} {t : RSh} {N : Tx → Nat → Nat} (h : Rel s t N) (o : OpV) : ∃ N', Rel (doF s o).1 (wantF t o).1 N' ∧ (doF s o).2 = (wantF t o).2 := by
  unfold doF wantF
  by_cases h0 : o.kind % 6 = 0
  · rw [if_pos h0, if_pos h0]
    obtain ⟨N', h1, h2⟩ := h.write (put_form o) o.put_nd (d := []) (.inl rfl)
    exact ⟨N', h1, by rw [h2]⟩
  rw [if_neg h0, if_neg h0]
  by_cases h1 : o.kind % 6 = 1
  · rw [if_pos h1, if_pos h1]
    obtain ⟨N', h1, h2⟩ := h.write (put_form o) o.put_nd (d := [o.other]) (.inr ⟨_, rfl⟩)
    exact ⟨N', h1, by rw [h2]⟩
  rw [if_neg h1, if_neg h1]
  by_cases h2 : o.kind % 6 = 2
  · rw [if_pos h2, if_pos h2]
    obtain ⟨h1, h2⟩ := h.open_
    exact ⟨N, h1, by rw [h2]⟩
  rw [if_neg h2, if_neg h2]
  by_cases h3 : o.kind % 6 = 3
  · rw [if_pos h3, if_pos h3]
    obtain ⟨h1, h2⟩ := h.close o.n
    exact ⟨N, h1, by rw [h2]⟩
  rw [if_neg h3, if_neg h3]
  by_cases h4 : o.kind % 6 = 4
  · rw [if_pos h4, if_pos h4]
    have h1 := h.collect (times_ex h)
    refine ⟨N, h1, ?_⟩
    show ((heldN s.keys : Int) - (heldN (collectF s (timesOf s)).keys : Int), 0) = ((t.kept.length : Int) - ((rcollectF t).kept.length : Int), 0)
    rw [heldN_eq h.held, heldN_eq h1.held]
  rw [if_neg h4, if_neg h4]
  obtain ⟨h1, h2⟩ := h.forget o.key
  exact ⟨N, h1, by rw [h2]⟩
/-- how great the reference's shelf is after k operations -/
structure RBk (t : RSh) (k : Nat) : Prop where
  kept : t.kept.length ≤ 2 * k
  newest : t.newest.length ≤ 2 * k
  rds : t.readers.length ≤ k
  rd : ∀ l ∈ t.readers, l.length ≤ 3 * k
  ver : t.ver ≤ k
  count : t.count ≤ 2 * k
theorem RBk.rb {t : RSh} {k : Nat} (h : RBk t k) (hk : k ≤ 1000) : RB t :=
  ⟨by have := h.kept; omega, by have := h.newest; omega, by have := h.rds; omega, fun l hl => by have := h.rd l hl; omega, by have := h.ver; omega, by have := h.count; omega⟩
theorem RBk.mono {t : RSh} {k : Nat} (h : RBk t k) : RBk t (k + 1) :=
  ⟨by have := h.kept; omega, by have := h.newest; omega, by have := h.rds; omega, fun l hl => by have := h.rd l hl; omega, by have := h.ver; omega, by have := h.count; omega⟩
theorem RBk.start : RBk newR 0 := ⟨Nat.le_refl _, Nat.le_refl _, Nat.le_refl _, fun l hl => by simp [newR] at hl, Nat.le_refl _, Nat.le_refl _⟩
theorem rputs_rd (ps : List (Tx × Tx)) : ∀ t : RSh, (rputs t ps).readers = t.readers := by
  induction ps with
  | nil => intro t; rfl
  | cons p ps ih => intro t; exact ih (rput t p.1 p.2)
theorem rdrops_rd (d : List Tx) : ∀ t : RSh, (rdrops t d).readers = t.readers := by
  induction d with
  | nil => intro t; rfl
  | cons p ps ih => intro t; exact ih (rdrop t p)
theorem RBk.write {t : RSh} {k : Nat} (h : RBk t k) (ps : List (Tx × Tx)) (d : List Tx) (hl : ps.length ≤ 2) : RBk (rwriteF t ps d).1 (k + 1) := by
  unfold rwriteF
  split
  · exact h.mono
  split
  · exact h.mono
  obtain ⟨a1, a2, a3⟩ := rputs_len ps (rdrops t d)
  have b1 := rdrops_len d t
  obtain ⟨b2, b3, _⟩ := rdrops_kept d t
  have h1 := h.kept
  have h2 := h.newest
  have h3 := h.count
  have h4 := h.rds
  have h5 := h.ver
  rw [b2] at a2
  rw [b3] at a3
  refine ⟨?_, ?_, ?_, fun l hl' => ?_, ?_, ?_⟩
  · show (rputs (rdrops t d) ps).kept.length ≤ _; omega
  · show (rputs (rdrops t d) ps).newest.length ≤ _; omega
  · show (rputs (rdrops t d) ps).readers.length ≤ _; rw [rputs_rd, rdrops_rd]; omega
  · have hl' : l ∈ (rputs (rdrops t d) ps).readers := hl'
    rw [rputs_rd, rdrops_rd] at hl'
    have := h.rd l hl'; omega
  · show t.ver + 1 ≤ _; omega
  · show (rputs (rdrops t d) ps).count ≤ _; omega
theorem fgtR_len (k : Tx) (l : List Ent) : (fgtR k l).length ≤ l.length + 1 := by
  unfold fgtR
  split
  · rw [List.length_append]
    have : (withoutL l k).length ≤ l.length := List.length_filter_le _ _
    show _ + 1 ≤ _
    omega
  · omega
theorem RBk.op {t : RSh} {k : Nat} (h : RBk t k) (o : OpV) : RBk (wantF t o).1 (k + 1) := by
  unfold wantF
  split
  · exact h.write _ _ o.put_len
  split
  · exact h.write _ _ o.put_len
  split
  · show RBk (ropenF t).1 (k + 1)
    unfold ropenF
    split
    · exact h.mono
    · refine ⟨h.mono.kept, h.mono.newest, ?_, fun l hl => ?_, h.mono.ver, h.mono.count⟩
      · show (t.readers ++ [t.newest]).length ≤ _
        rw [List.length_append]
        have := h.rds
        show _ + 1 ≤ _
        omega
      · have hl : l ∈ t.readers ++ [t.newest] := hl
        rcases List.mem_append.1 hl with hl | hl
        · exact h.mono.rd l hl
        · rw [List.mem_singleton.1 hl]; have := h.newest; omega
  split
  · show RBk (rcloseF t o.n).1 (k + 1)
    unfold rcloseF
    split
    · exact ⟨h.mono.kept, h.mono.newest, h.mono.rds, h.mono.rd, h.mono.ver, h.mono.count⟩
    · exact h.mono
  split
  · exact ⟨Nat.le_trans (List.length_filter_le _ _) h.mono.kept, h.mono.newest, h.mono.rds, h.mono.rd, h.mono.ver, h.mono.count⟩
  · show RBk (rforgetF t o.key).1 (k + 1)
    unfold rforgetF
    split
    · refine ⟨Nat.le_trans (List.length_filter_le _ _) h.mono.kept, Nat.le_trans (List.length_filter_le _ _) h.mono.newest, by show (t.readers.map _).length ≤ _; rw [List.length_map]; exact h.mono.rds, fun l hl => ?_, h.mono.ver, h.mono.count⟩
      obtain ⟨m, hm, rfl⟩ := List.mem_map.1 (show l ∈ t.readers.map (fgtR o.key) from hl)
      have := h.rd m hm
      have := fgtR_len o.key m
      omega
    · exact h.mono
end Go.Proofs.Ytfhgidbmeifflaa
