import Derived.Test.YtniklmikdkjgiaaGreatDoorcS2
set_option linter.all false
set_option maxHeartbeats 16000000
set_option maxRecDepth 100000
namespace Go.Proofs.YtniklmikdkjgiaaGreatDoor
open Go.RowKit Go.Shelf Go.Maps Go.ChangeMaps Go.MapKept Go.WideShapes Go.WideMaps
theorem same_int {a b : Int} : (Lit.int .i64 a).sameKey (.int .i64 b) = decide (a = b) := by
  rw [Bool.eq_iff_iff]; simp [Lit.sameKey]
def modM (ms : List Int) (n : Nat) : Lit → Option Value
  | .int .i64 v => if inI ms v = true ∧ 0 ≤ v ∧ v < (n : Int) then some (.bool true) else none
  | _ => none
theorem inI_snoc (ms : List Int) (m v : Int) : inI (ms ++ [m]) v = (inI ms v || (m == v)) := by simp [inI]
theorem modM_in {ms : List Int} {n : Nat} {m : Int} (h1 : 0 ≤ m) (h2 : m < (n : Int)) : updM (modM ms n) (.int .i64 m) (.bool true) = modM (ms ++ [m]) n := by
  funext x
  unfold updM
  by_cases e : x = .int .i64 m
  · subst e
    rw [if_pos (by rw [same_int]; simp)]
    show _ = if _ then _ else _
    rw [if_pos ⟨by rw [inI_snoc]; simp, h1, h2⟩]
  · rw [if_neg (by rw [Maps.sameKey_ne e]; simp)]
    unfold modM
    split
    · next v =>
      have : (m == v) = false := by
        rw [beq_eq_false_iff_ne]
        intro e2; exact e (by rw [e2])
      rw [inI_snoc, this, Bool.or_false]
    · rfl
theorem modM_out {ms : List Int} {n : Nat} {m : Int} (h : ¬ (0 ≤ m ∧ m < (n : Int))) : modM (ms ++ [m]) n = modM ms n := by
  funext x
  unfold modM
  split
  · next v =>
    by_cases e : m = v
    · subst e
      rw [if_neg (fun hh => h hh.2), if_neg (fun hh => h hh.2)]
    · have : (m == v) = false := by rw [beq_eq_false_iff_ne]; exact e
      rw [inI_snoc, this, Bool.or_false]
  · rfl
def revB (es : List Sx) (t : Tx) : Bool := es.any fun e => decide (e.id = t) && decide (e.st = 3)
def revM (es : List Sx) : Lit → Option Value
  | .string t => if hasS es t = true then some (.bool (revB es t)) else none
  | _ => none
theorem revB_no {es : List Sx} {t : Tx} (h : hasS es t = false) : revB es t = false := by
  unfold revB
  unfold hasS at h
  rw [List.any_eq_false] at h ⊢
  intro e he hh
  rw [Bool.and_eq_true] at hh
  exact h e he hh.1
theorem revM_get (es : List Sx) (t : Tx) : (revM es (.string t)).getD (.bool false) = .bool (revB es t) := by
  show (if hasS es t = true then some (Value.bool (revB es t)) else none).getD _ = _
  cases h : hasS es t
  · rw [if_neg (by simp), revB_no h]; rfl
  · rw [if_pos rfl]; rfl
theorem revM_snoc {es : List Sx} {e : Sx} (h : hasS es e.id = false) : updM (revM es) (.string e.id) (.bool (decide (e.st = 3))) = revM (es ++ [e]) := by
  funext x
  unfold updM
  by_cases hx : x = .string e.id
  · subst hx
    rw [if_pos (by rw [same_str]; simp)]
    show _ = if _ then _ else _
    rw [if_pos (by rw [hasS_app]; simp)]
    unfold revB
    rw [List.any_append]
    have := revB_no h
    unfold revB at this
    rw [this]; simp
  · rw [if_neg (by rw [Maps.sameKey_ne hx]; simp)]
    unfold revM
    split
    · next t =>
      have ht : ¬ e.id = t := fun e2 => hx (by rw [e2])
      have e1 : hasS (es ++ [e]) t = hasS es t := by rw [hasS_app]; simp [ht]
      have e2 : revB (es ++ [e]) t = revB es t := by unfold revB; rw [List.any_append]; simp [ht]
      rw [e1, e2]
    · rfl
def auM (au : List (Tx × Int)) : Lit → Option Value
  | .string t => (auG au t).map fun v => .int .i64 v
  | _ => none
theorem auM_new {au : List (Tx × Int)} {t : Tx} {v : Int} (h : auG au t = none) : updM (auM au) (.string t) (.int .i64 v) = auM (au ++ [(t, v)]) := by
  funext x
  unfold updM
  by_cases hx : x = .string t
  · subst hx
    rw [if_pos (by rw [same_str]; simp)]
    show _ = (auG (au ++ [(t, v)]) t).map _
    rw [auG_new h, if_pos rfl]; rfl
  · rw [if_neg (by rw [Maps.sameKey_ne hx]; simp)]
    unfold auM
    split
    · next s =>
      have hs : ¬ t = s := fun e2 => hx (by rw [e2])
      congr 1
      cases hg : auG au s
      · rw [auG_new hg, if_neg hs]
      · rw [auG_app hg]
    · rfl
def recB (r : RV) (b : Bool) : List Value := (rvL r).set 8 (.bool b)
structure LastM (M : Lit → Option Value) (mr : List ((Int × Tx) × Bool)) : Prop where
  key : ∀ kl v, M kl = some v → ∃ (a : Int) (t : Tx) (b : Bool) (r : RV), kl = kp a t ∧ 0 ≤ a ∧ a ≤ 59 ∧ t.length ≤ 1000000 ∧ mkG mr (a, t) = some b ∧ v = .agg (recB r b).toArray ∧ ∃ w, RvIs w r
  has : ∀ a t b, mkG mr (a, t) = some b → (M (kp a t)).isSome = true
  rng : ∀ q ∈ mr, 0 ≤ q.1.1 ∧ q.1.1 ≤ 59 ∧ q.1.2.length ≤ 1000000
theorem LastM.nil : LastM (fun _ => none) [] := ⟨fun _ _ h => (by cases h), fun _ _ _ h => (by cases h), fun _ h => (by cases h)⟩
theorem LastM.add {M : Lit → Option Value} {mr : List ((Int × Tx) × Bool)} (h : LastM M mr) {a : Int} {t : Tx} (b : Bool) {r : RV} (h1 : 0 ≤ a) (h2 : a ≤ 59) (h3 : t.length ≤ 1000000) {w : World} (hr : RvIs w r) : LastM (updM M (kp a t) (.agg (recB r b).toArray)) (((a, t), b) :: mr) := by
  have self : (kp a t).sameKey (kp a t) = true := WideAt.sameKey_self (by unfold kp; trivial)
  refine ⟨fun kl v hv => ?_, fun a' t' b' hb => ?_, fun q hq => ?_⟩
  · unfold updM at hv
    split at hv
    · next hs =>
      have e : kl = kp a t := WideAt.sameKey_eq hs
      injection hv with hv
      exact ⟨a, t, b, r, e, h1, h2, h3, by rw [mkG_cons, if_pos rfl], hv.symm, w, hr⟩
    · next hs =>
      obtain ⟨a', t', b', r', e1, e2, e3, e4, e5, e6, e7⟩ := h.key kl v hv
      refine ⟨a', t', b', r', e1, e2, e3, e4, ?_, e6, e7⟩
      rw [mkG_cons, if_neg (fun e => hs (by injection e with f1 f2; subst f1 f2; rw [e1]; exact self))]
      exact e5
  · unfold updM
    split
    · rfl
    · next hs =>
      rw [mkG_cons] at hb
      split at hb
      · next e => injection e with f1 f2; subst f1 f2; exact absurd self hs
      · exact h.has a' t' b' hb
  · rcases List.mem_cons.1 hq with rfl | hq
    · exact ⟨h1, h2, h3⟩
    · exact h.rng q hq
theorem mkG_mem {mr : List ((Int × Tx) × Bool)} {p : Int × Tx} {b : Bool} (h : mkG mr p = some b) : (p, b) ∈ mr := by
  unfold mkG at h
  rw [Option.map_eq_some_iff] at h
  obtain ⟨q, h1, h2⟩ := h
  have h3 := List.mem_of_find?_eq_some h1
  have h4 := List.find?_some h1
  rw [decide_eq_true_eq] at h4
  rw [← h4, ← h2]; exact h3
theorem auG_mem {au : List (Tx × Int)} {t : Tx} {a : Int} (h : auG au t = some a) : (t, a) ∈ au := by
  unfold auG at h
  rw [Option.map_eq_some_iff] at h
  obtain ⟨q, h1, h2⟩ := h
  have h3 := List.mem_of_find?_eq_some h1
  have h4 := List.find?_some h1
  rw [decide_eq_true_eq] at h4
  rw [← h4, ← h2]; exact h3
def goodC (rev : Tx → Bool) (s : TS) (n : Nat) (p : Int) (t : Tx) (a : Int) : Prop := mkG s.mr (p, t) = some true ∧ auG s.au t = some a ∧ a ≠ p ∧ p < (n : Int) ∧ a < (n : Int) ∧ rev t = false
theorem conf_iff {rev : Tx → Bool} {s : TS} {n : Nat} {p a : Int} : confT rev s n p a = true ↔ ∃ t, goodC rev s n p t a := by
  unfold confT
  rw [List.any_eq_true]
  constructor
  · rintro ⟨q, hq, h⟩
    simp only [Bool.and_eq_true, decide_eq_true_eq, Bool.not_eq_true'] at h
    obtain ⟨⟨⟨⟨⟨⟨h1, h2⟩, h3⟩, h4⟩, h5⟩, h6⟩, h7⟩ := h
    exact ⟨q.1, h3, h2, h4, h5, h6, h7⟩
  · rintro ⟨t, h1, h2, h3, h4, h5, h6⟩
    refine ⟨(t, a), auG_mem h2, ?_⟩
    simp only [Bool.and_eq_true, decide_eq_true_eq, Bool.not_eq_true']
    exact ⟨⟨⟨⟨⟨⟨by trivial, h2⟩, h1⟩, h3⟩, h4⟩, h5⟩, h6⟩
structure ConR (rev : Tx → Bool) (s : TS) (n : Nat) (left : Lit → Bool) (M : Lit → Option Value) : Prop where
  one : ∀ kl v, M kl = some v → v = .bool true ∧ ∃ p t a, kl = k2 p a ∧ 0 ≤ p ∧ p ≤ 59 ∧ 0 ≤ a ∧ a ≤ 59 ∧ goodC rev s n p t a
  all : ∀ p t a, goodC rev s n p t a → left (kp p t) = false → (M (k2 p a)).isSome = true
theorem ConR.fin {rev : Tx → Bool} {s : TS} {n : Nat} {left : Lit → Bool} {M : Lit → Option Value} (h : ConR rev s n left M) (hl : ∀ kl, left kl = false) (hn : n ≤ 1000) (k i : Nat) (hk : k < n) (hi : i < n) : (M (k2 (k : Int) (i : Int))).getD (.bool false) = .bool (confT rev s n (k : Int) (i : Int)) := by
  cases hm : M (k2 (k : Int) (i : Int)) with
  | none =>
    cases hc : confT rev s n (k : Int) (i : Int)
    · rfl
    · obtain ⟨t, ht⟩ := conf_iff.1 hc
      have := h.all _ t _ ht (hl _)
      rw [hm] at this; cases this
  | some v =>
    obtain ⟨rfl, p, t, a, e, h1, h2, h3, h4, h5⟩ := h.one _ _ hm
    obtain ⟨rfl, rfl⟩ := k2_inj (by omega) (by omega) (by omega) (by omega) e
    rw [conf_iff.2 ⟨t, h5⟩]; rfl
theorem ConR.skip {rev : Tx → Bool} {s : TS} {n : Nat} {left : Lit → Bool} {M : Lit → Option Value} (h : ConR rev s n left M) {p : Int} {t : Tx} (hr : ∀ q ∈ s.mr, 0 ≤ q.1.1 ∧ q.1.1 ≤ 59 ∧ q.1.2.length ≤ 1000000) (h1 : 0 ≤ p) (h2 : p ≤ 59) (h3 : t.length ≤ 1000000) (hn : ∀ a, ¬ goodC rev s n p t a) : ConR rev s n (fun x => left x && !x.sameKey (kp p t)) M := by
  refine ⟨h.one, fun p' t' a ho hl => ?_⟩
  cases hs : (kp p' t').sameKey (kp p t)
  · rw [hs] at hl
    exact h.all p' t' a ho (by simpa using hl)
  · have e : kp p' t' = kp p t := WideAt.sameKey_eq hs
    have m := hr _ (mkG_mem ho.1)
    obtain ⟨rfl, rfl⟩ := kp_inj (by have := m.1; have := m.2.1; dsimp only at *; omega) m.2.2 (by omega) h3 e
    exact absurd ho (hn a)
theorem ConR.add {rev : Tx → Bool} {s : TS} {n : Nat} {left : Lit → Bool} {M : Lit → Option Value} (h : ConR rev s n left M) {p a : Int} {t : Tx} (hr : ∀ q ∈ s.mr, 0 ≤ q.1.1 ∧ q.1.1 ≤ 59 ∧ q.1.2.length ≤ 1000000) (h1 : 0 ≤ p) (h2 : p ≤ 59) (h3 : t.length ≤ 1000000) (h4 : 0 ≤ a) (h5 : a ≤ 59) (ho : goodC rev s n p t a) : ConR rev s n (fun x => left x && !x.sameKey (kp p t)) (updM M (k2 p a) (.bool true)) := by
  refine ⟨fun kl v hv => ?_, fun p' t' a' ho' hl => ?_⟩
  · unfold updM at hv
    split at hv
    · next hs =>
      injection hv with hv
      exact ⟨hv.symm, p, t, a, WideAt.sameKey_eq hs, h1, h2, h4, h5, ho⟩
    · exact h.one kl v hv
  · unfold updM
    split
    · rfl
    · next hne =>
      cases hs : (kp p' t').sameKey (kp p t)
      · rw [hs] at hl
        exact h.all p' t' a' ho' (by simpa using hl)
      · have e : kp p' t' = kp p t := WideAt.sameKey_eq hs
        have m := hr _ (mkG_mem ho'.1)
        obtain ⟨rfl, rfl⟩ := kp_inj (by have := m.1; have := m.2.1; dsimp only at *; omega) m.2.2 (by omega) h3 e
        have : a' = a := by
          have e2 := ho'.2.1
          rw [ho.2.1] at e2
          injection e2 with e2
          exact e2.symm
        subst this
        exact absurd (WideAt.sameKey_self (by unfold k2; trivial)) hne
theorem ConR.nil {rev : Tx → Bool} {s : TS} {n : Nat} {left : Lit → Bool} (h : ∀ p t, (mkG s.mr (p, t)).isSome = true → left (kp p t) = true) : ConR rev s n left (fun _ => none) :=
  ⟨fun _ _ h => (by cases h), fun p t a ho hl => by rw [h p t (by rw [ho.1]; rfl)] at hl; cases hl⟩
theorem MapAt.empty {w : World} {P : Program} {k : TypeId} {b : Nat} (h : w.heap[b]? = some (.map #[] 0)) : MapAt w P k b (fun _ => none) 0 := by
  have hb := lt_of_block h
  obtain ⟨w0, h0⟩ : ∃ w0 : World, w0 = { w with heap := w.heap.extract 0 b } := ⟨_, rfl⟩
  have hz : w0.heap.size = b := by rw [h0]; simp; omega
  have m := MapAt.made w0 P k
  rw [hz] at m
  refine m.same ?_
  rw [h, ← hz]
  exact (World.alloc_heap_new w0 _).symm
structure OfA (V u : World) (n gp b1 b2 b3 : Nat) (M1 : Lit → Option Value) (m1 : Nat) (N : List Int) : Prop where
  bel : Below V.heap.size V u
  g : u.heap[gp]? = some (.cells #[.int .i64 (n : Int), .map (some b1), .map (some b2), .slice (some ⟨b3, 0, none⟩) n n] 165 (0, 0))
  ne : u.heap[b3]? = some (.cells (intsL N).toArray 3 (0, 0))
  a1 : MapAt u Tryz.prog 3 b1 M1 m1
  a2 : MapAt u Tryz.prog 166 b2 (fun _ => none) 0
  z1 : V.heap.size ≤ b1
  z2 : V.heap.size ≤ b2
  z3 : V.heap.size ≤ b3
  d1 : b1 ≠ b2
  d2 : b1 ≠ b3
  d3 : b2 ≠ b3
  l1 : b1 < gp
  l2 : b2 < gp
  l3 : b3 < gp
  nl : N.length = n
theorem alloc_newT (w : World) (o : Obj) (k : Nat) (h : k = w.heap.size) : (w.alloc o).heap[k]? = some o := by rw [h]; exact World.alloc_heap_new w o
theorem drew_heapT (w : World) : w.drew.heap = w.heap := rfl
def nsU (b : Int) (n k : Nat) : List Int := (List.range n).map fun (i : Nat) => if i < k then b else 0
theorem nsU_zero (b : Int) (n : Nat) : nsU b n 0 = List.replicate n 0 := by
  apply List.ext_getElem
  · simp [nsU]
  · intro i h1 h2; simp [nsU]
theorem nsU_set (b : Int) (n k : Nat) : (nsU b n k).set k b = nsU b n (k + 1) := by
  apply List.ext_getElem
  · simp [nsU]
  · intro i h1 h2
    have g : ∀ k (h : i < (nsU b n k).length), (nsU b n k)[i] = if i < k then b else 0 := fun k h => by simp [nsU]
    rw [List.getElem_set, g, g]
    by_cases e : k = i
    · rw [if_pos e, if_pos (by omega)]
    · rw [if_neg e]
      by_cases e2 : i < k
      · rw [if_pos e2, if_pos (by omega)]
      · rw [if_neg e2, if_neg (by omega)]
theorem nsU_fin (b : Int) (n : Nat) : nsU b n n = (List.range n).map fun _ => b := by
  unfold nsU
  apply List.map_congr_left
  intro i hi
  rw [if_pos (List.mem_range.1 hi)]
theorem nsU_len (b : Int) (n k : Nat) : (nsU b n k).length = n := by simp [nsU]
theorem modM_nil (n : Nat) : modM [] n = fun _ => none := by
  funext x
  unfold modM
  split
  · rw [if_neg (by simp [inI])]
  · rfl
theorem OfA.start {V u : World} {n gp b1 b2 b3 : Nat} (hb : Below V.heap.size V u)
    (hg : u.heap[gp]? = some (.cells #[.int .i64 (n : Int), .map (some b1), .map (some b2), .slice (some ⟨b3, 0, none⟩) n n] 165 (0, 0))) (h1 : u.heap[b1]? = some (.map #[] 0)) (h2 : u.heap[b2]? = some (.map #[] 0)) (h3 : u.heap[b3]? = some (.cells (intsL (List.replicate n 0)).toArray 3 (0, 0)))
    (z : V.heap.size ≤ b1 ∧ V.heap.size ≤ b2 ∧ V.heap.size ≤ b3 ∧ b1 ≠ b2 ∧ b1 ≠ b3 ∧ b2 ≠ b3 ∧ b1 < gp ∧ b2 < gp ∧ b3 < gp) : OfA V u n gp b1 b2 b3 (modM [] n) 0 (List.replicate n 0) := by
  obtain ⟨z1, z2, z3, z4, z5, z6, z7, z8, z9⟩ := z
  exact ⟨hb, hg, h3, by rw [modM_nil]; exact MapAt.empty h1, MapAt.empty h2, z1, z2, z3, z4, z5, z6, z7, z8, z9, by simp⟩
theorem OfA.keep {V u u' : World} {n gp b1 b2 b3 : Nat} {M1 : Lit → Option Value} {m1 : Nat} {N : List Int} (h : OfA V u n gp b1 b2 b3 M1 m1 N) (hb : Below u.heap.size u u') : OfA V u' n gp b1 b2 b3 M1 m1 N :=
  ⟨h.bel.trans (hb.mono h.bel.size), (hb.block _ (lt_of_block h.g)).trans h.g, (hb.block _ (lt_of_block h.ne)).trans h.ne, h.a1.same (hb.block _ h.a1.lt), h.a2.same (hb.block _ h.a2.lt), h.z1, h.z2, h.z3, h.d1, h.d2, h.d3, h.l1, h.l2, h.l3, h.nl⟩
theorem OfA.up1 {V u u' : World} {n gp b1 b2 b3 : Nat} {M1 M1' : Lit → Option Value} {m1 m1' : Nat} {N : List Int} (h : OfA V u n gp b1 b2 b3 M1 m1 N) (hm : MapAt u' Tryz.prog 3 b1 M1' m1') (hg : u.grownBy u' (some b1)) : OfA V u' n gp b1 b2 b3 M1' m1' N := by
  have l1 := h.l1
  have d1 := h.d1
  have d2 := h.d2
  have kk : ∀ k, k < u.heap.size → k ≠ b1 → u'.heap[k]? = u.heap[k]? := fun k h1 h2 => hg.block k h1 (fun e => by injection e with e; exact h2 e)
  exact ⟨h.bel.grown hg h.bel.size (fun k e => by cases e; exact h.z1), (kk _ (lt_of_block h.g) (by omega)).trans h.g, (kk _ (lt_of_block h.ne) (fun e => d2 e.symm)).trans h.ne, hm, h.a2.same (kk _ h.a2.lt (fun e => d1 e.symm)), h.z1, h.z2, h.z3, h.d1, h.d2, h.d3, h.l1, h.l2, h.l3, h.nl⟩
theorem OfA.setN {V u : World} {n gp b1 b2 b3 : Nat} {M1 : Lit → Option Value} {m1 : Nat} {N : List Int} (h : OfA V u n gp b1 b2 b3 M1 m1 N) (i : Nat) (v : Int) : OfA V (u.setCell ⟨b3, i, none⟩ (.int .i64 v)) n gp b1 b2 b3 M1 m1 (N.set i v) := by
  have l3 := h.l3
  exact ⟨h.bel.setCell (p := ⟨b3, i, none⟩) h.z3 _, (setCell_other (by omega)).trans h.g, by rw [setCell_row _ h.ne, ints_set], h.a1.same (setCell_other h.d2), h.a2.same (setCell_other h.d3), h.z1, h.z2, h.z3, h.d1, h.d2, h.d3, h.l1, h.l2, h.l3, by rw [List.length_set]; exact h.nl⟩
structure OfQ where
  gp : Nat
  b1 : Nat
  b2 : Nat
  b3 : Nat
  b4 : Nat
  b5 : Nat
  b6 : Nat
structure OfB (V u : World) (n : Nat) (q : OfQ) (M1 M2 M3 M4 M5 : Lit → Option Value) (m1 m2 m3 m4 m5 : Nat) (N : List Int) : Prop where
  bel : Below V.heap.size V u
  g : u.heap[q.gp]? = some (.cells #[.int .i64 (n : Int), .map (some q.b1), .map (some q.b2), .slice (some ⟨q.b3, 0, none⟩) n n] 165 (0, 0))
  ne : u.heap[q.b3]? = some (.cells (intsL N).toArray 3 (0, 0))
  a1 : MapAt u Tryz.prog 3 q.b1 M1 m1
  a2 : MapAt u Tryz.prog 166 q.b2 M2 m2
  a3 : MapAt u Tryz.prog 9 q.b4 M3 m3
  a4 : MapAt u Tryz.prog 9 q.b5 M4 m4
  a5 : MapAt u Tryz.prog 173 q.b6 M5 m5
  z1 : V.heap.size ≤ q.b1
  z2 : V.heap.size ≤ q.b2
  z3 : V.heap.size ≤ q.b3
  d1 : q.b1 ≠ q.b2
  d2 : q.b1 ≠ q.b3
  d3 : q.b2 ≠ q.b3
  l1 : q.b1 < q.gp
  l2 : q.b2 < q.gp
  l3 : q.b3 < q.gp
  l4 : q.gp < q.b4
  l5 : q.b4 < q.b5
  l6 : q.b5 < q.b6
  nl : N.length = n
section
variable {V u u' : World} {n : Nat} {q : OfQ} {M1 M2 M3 M4 M5 : Lit → Option Value} {m1 m2 m3 m4 m5 : Nat} {N : List Int}
theorem OfB.keep (h : OfB V u n q M1 M2 M3 M4 M5 m1 m2 m3 m4 m5 N) (hb : Below u.heap.size u u') : OfB V u' n q M1 M2 M3 M4 M5 m1 m2 m3 m4 m5 N :=
  ⟨h.bel.trans (hb.mono h.bel.size), (hb.block _ (lt_of_block h.g)).trans h.g, (hb.block _ (lt_of_block h.ne)).trans h.ne, h.a1.same (hb.block _ h.a1.lt), h.a2.same (hb.block _ h.a2.lt), h.a3.same (hb.block _ h.a3.lt), h.a4.same (hb.block _ h.a4.lt), h.a5.same (hb.block _ h.a5.lt), h.z1, h.z2, h.z3, h.d1, h.d2, h.d3, h.l1, h.l2, h.l3, h.l4, h.l5, h.l6, h.nl⟩
theorem OfB.hi (h : OfB V u n q M1 M2 M3 M4 M5 m1 m2 m3 m4 m5 N) : q.b6 < u.heap.size := h.a5.lt
theorem OfB.keepB (h : OfB V u n q M1 M2 M3 M4 M5 m1 m2 m3 m4 m5 N) (hb : Below (q.b6 + 1) u u') : OfB V u' n q M1 M2 M3 M4 M5 m1 m2 m3 m4 m5 N := by
  have l1 := h.l1
  have l2 := h.l2
  have l3 := h.l3
  have l4 := h.l4
  have l5 := h.l5
  have l6 := h.l6
  have z1 := h.z1
  exact ⟨h.bel.trans (hb.mono (by omega)), (hb.block _ (by omega)).trans h.g, (hb.block _ (by omega)).trans h.ne, h.a1.same (hb.block _ (by omega)), h.a2.same (hb.block _ (by omega)), h.a3.same (hb.block _ (by omega)), h.a4.same (hb.block _ (by omega)), h.a5.same (hb.block _ (by omega)), h.z1, h.z2, h.z3, h.d1, h.d2, h.d3, h.l1, h.l2, h.l3, h.l4, h.l5, h.l6, h.nl⟩
theorem OfB.up4 {M4' : Lit → Option Value} {m4' : Nat} (h : OfB V u n q M1 M2 M3 M4 M5 m1 m2 m3 m4 m5 N) (hm : MapAt u' Tryz.prog 9 q.b5 M4' m4') (hg : u.grownBy u' (some q.b5)) : OfB V u' n q M1 M2 M3 M4' M5 m1 m2 m3 m4' m5 N := by
  have l1 := h.l1
  have l2 := h.l2
  have l3 := h.l3
  have l4 := h.l4
  have l5 := h.l5
  have l6 := h.l6
  have z1 := h.z1
  have kk : ∀ k, k < u.heap.size → k ≠ q.b5 → u'.heap[k]? = u.heap[k]? := fun k h1 h2 => hg.block k h1 (fun e => by injection e with e; exact h2 e)
  exact ⟨h.bel.grown hg h.bel.size (fun k e => by cases e; omega), (kk _ (lt_of_block h.g) (by omega)).trans h.g, (kk _ (lt_of_block h.ne) (by omega)).trans h.ne, h.a1.same (kk _ h.a1.lt (by omega)), h.a2.same (kk _ h.a2.lt (by omega)), h.a3.same (kk _ h.a3.lt (by omega)), hm, h.a5.same (kk _ h.a5.lt (by omega)), h.z1, h.z2, h.z3, h.d1, h.d2, h.d3, h.l1, h.l2, h.l3, h.l4, h.l5, h.l6, h.nl⟩
theorem OfB.up5 {M5' : Lit → Option Value} {m5' : Nat} (h : OfB V u n q M1 M2 M3 M4 M5 m1 m2 m3 m4 m5 N) (hm : MapAt u' Tryz.prog 173 q.b6 M5' m5') (hg : u.grownBy u' (some q.b6)) : OfB V u' n q M1 M2 M3 M4 M5' m1 m2 m3 m4 m5' N := by
  have l1 := h.l1
  have l2 := h.l2
  have l3 := h.l3
  have l4 := h.l4
  have l5 := h.l5
  have l6 := h.l6
  have z1 := h.z1
  have kk : ∀ k, k < u.heap.size → k ≠ q.b6 → u'.heap[k]? = u.heap[k]? := fun k h1 h2 => hg.block k h1 (fun e => by injection e with e; exact h2 e)
  exact ⟨h.bel.grown hg h.bel.size (fun k e => by cases e; omega), (kk _ (lt_of_block h.g) (by omega)).trans h.g, (kk _ (lt_of_block h.ne) (by omega)).trans h.ne, h.a1.same (kk _ h.a1.lt (by omega)), h.a2.same (kk _ h.a2.lt (by omega)), h.a3.same (kk _ h.a3.lt (by omega)), h.a4.same (kk _ h.a4.lt (by omega)), hm, h.z1, h.z2, h.z3, h.d1, h.d2, h.d3, h.l1, h.l2, h.l3, h.l4, h.l5, h.l6, h.nl⟩
theorem OfB.up2 {M2' : Lit → Option Value} {m2' : Nat} (h : OfB V u n q M1 M2 M3 M4 M5 m1 m2 m3 m4 m5 N) (hm : MapAt u' Tryz.prog 166 q.b2 M2' m2') (hg : u.grownBy u' (some q.b2)) : OfB V u' n q M1 M2' M3 M4 M5 m1 m2' m3 m4 m5 N := by
  have l1 := h.l1
  have l2 := h.l2
  have l3 := h.l3
  have l4 := h.l4
  have l5 := h.l5
  have l6 := h.l6
  have d1 := h.d1
  have d3 := h.d3
  have kk : ∀ k, k < u.heap.size → k ≠ q.b2 → u'.heap[k]? = u.heap[k]? := fun k h1 h2 => hg.block k h1 (fun e => by injection e with e; exact h2 e)
  exact ⟨h.bel.grown hg h.bel.size (fun k e => by cases e; exact h.z2), (kk _ (lt_of_block h.g) (by omega)).trans h.g, (kk _ (lt_of_block h.ne) (fun e => d3 e.symm)).trans h.ne, h.a1.same (kk _ h.a1.lt d1), hm, h.a3.same (kk _ h.a3.lt (by omega)), h.a4.same (kk _ h.a4.lt (by omega)), h.a5.same (kk _ h.a5.lt (by omega)), h.z1, h.z2, h.z3, h.d1, h.d2, h.d3, h.l1, h.l2, h.l3, h.l4, h.l5, h.l6, h.nl⟩
theorem OfB.setN (h : OfB V u n q M1 M2 M3 M4 M5 m1 m2 m3 m4 m5 N) (i : Nat) (v : Int) : OfB V (u.setCell ⟨q.b3, i, none⟩ (.int .i64 v)) n q M1 M2 M3 M4 M5 m1 m2 m3 m4 m5 (N.set i v) := by
  have l3 := h.l3
  have l4 := h.l4
  have l5 := h.l5
  have l6 := h.l6
  exact ⟨h.bel.setCell (p := ⟨q.b3, i, none⟩) h.z3 _, (setCell_other (by omega)).trans h.g, by rw [setCell_row _ h.ne, ints_set], h.a1.same (setCell_other h.d2), h.a2.same (setCell_other h.d3), h.a3.same (setCell_other (by omega)), h.a4.same (setCell_other (by omega)), h.a5.same (setCell_other (by omega)), h.z1, h.z2, h.z3, h.d1, h.d2, h.d3, h.l1, h.l2, h.l3, h.l4, h.l5, h.l6, by rw [List.length_set]; exact h.nl⟩
end
end Go.Proofs.YtniklmikdkjgiaaGreatDoor
namespace Go.Proofs.YtniklmikdkjgiaaGreatDoor
open Go.RowKit Go.Shelf Go.Maps Go.ChangeMaps Go.MapKept Go.WideShapes Go.WideMaps
def baseT (need : Int) : Int := min (max 1 need) 1099511627776
def gdT (x : WoV) (l : List RV) : GD := ⟨x.keys.length, fun i => inI x.mods (i : Int), fun k i => confT (revT x.mods l) (tsF (revT x.mods l) l) x.keys.length (k : Int) (i : Int), (List.range x.keys.length).map fun (i : Nat) => needT (baseT x.need) (tsF (revT x.mods l) l) ((i : Nat) : Int)⟩
theorem validR_au {c : Rc} (h : validR c = true) : 0 ≤ c.author ∧ c.author ≤ 59 := by
  unfold validR at h
  simp only [Bool.and_eq_true, Bool.not_eq_true', Bool.or_eq_false_iff, Bool.not_eq_false', inB, decide_eq_true_eq] at h
  exact h.1.1.2.1.1.1.1.1.1
theorem auM_nil : auM [] = fun _ => none := by
  funext x
  unfold auM
  split <;> rfl
theorem revM_nil : revM [] = fun _ => none := by
  funext x
  unfold revM
  split
  · rw [if_neg (by simp [hasS])]
  · rfl
def ndL (base : Int) (s : TS) (n : Nat) : List Int := (List.range n).map fun (i : Nat) => needT base s (i : Int)
theorem ndL_len (base : Int) (s : TS) (n : Nat) : (ndL base s n).length = n := by simp [ndL]
theorem ndL_get (base : Int) (s : TS) (n : Nat) {i : Nat} (h : i < n) : (ndL base s n).getD i 0 = needT base s (i : Int) := by
  rw [List.getD_eq_getElem?_getD, List.getElem?_eq_getElem (by rw [ndL_len]; exact h)]
  simp [ndL]
theorem ndL_nil (base : Int) (n : Nat) : ndL base ⟨[], [], []⟩ n = nsU base n n := by
  rw [nsU_fin]
  unfold ndL
  apply List.map_congr_left
  intro i hi
  simp [needT]
theorem ndL_add (base : Int) (s : TS) (au : List (Tx × Int)) (mr : List ((Int × Tx) × Bool)) (n a : Nat) (h : a < n) : ndL base ⟨au, mr, s.nd ++ [(a : Int)]⟩ n = (ndL base s n).set a (needT base s (a : Int) + 1) := by
  apply List.ext_getElem
  · simp [ndL]
  · intro i h1 h2
    rw [List.getElem_set]
    have g : ∀ s' (h : i < (ndL base s' n).length), (ndL base s' n)[i] = needT base s' (i : Int) := fun s' h => by simp [ndL]
    rw [g]
    split
    · next e =>
      subst e
      unfold needT
      rw [List.filter_append]
      simp
      omega
    · next e =>
      rw [g]
      unfold needT
      rw [List.filter_append]
      have : ¬ (a : Int) = (i : Int) := by omega
      simp [this]
theorem ndL_out (base : Int) (s : TS) (au : List (Tx × Int)) (mr : List ((Int × Tx) × Bool)) (n a : Nat) (h : ¬ a < n) : ndL base ⟨au, mr, s.nd ++ [(a : Int)]⟩ n = ndL base s n := by
  unfold ndL
  apply List.map_congr_left
  intro i hi
  have hi := List.mem_range.1 hi
  unfold needT
  rw [List.filter_append]
  have : ¬ (a : Int) = (i : Int) := by omega
  simp [this]
theorem nd_step (rev : Tx → Bool) (s : TS) (r : RV) : (tstep rev s r).nd.length ≤ s.nd.length + 1 := by
  unfold tstep
  split
  · split
    · split
      · omega
      · dsimp only; split <;> simp
    · split <;> simp
  · omega
theorem nd_len (rev : Tx → Bool) (l : List RV) : ∀ k, k ≤ l.length → (tsF rev (l.take k)).nd.length ≤ k
  | 0, _ => by rw [List.take_zero]; exact Nat.le_refl _
  | k + 1, h => by
    rw [tsF_take rev l (by omega)]
    have := nd_step rev (tsF rev (l.take k)) l[k]
    have := nd_len rev l k (by omega)
    omega
theorem needT_le (base : Int) (s : TS) (a : Int) : base ≤ needT base s a ∧ needT base s a ≤ base + (s.nd.length : Int) := by
  unfold needT
  have := List.length_filter_le (fun x => decide (x = a)) s.nd
  omega
theorem baseT_le (x : Int) : 1 ≤ baseT x ∧ baseT x ≤ 1099511627776 := by unfold baseT; omega
def AuR (s : TS) : Prop := ∀ q ∈ s.au, 0 ≤ q.2 ∧ q.2 ≤ 59
theorem AuR.nil : AuR ⟨[], [], []⟩ := fun _ h => (by cases h)
theorem AuR.get {s : TS} (h : AuR s) {t : Tx} {a : Int} (hg : auG s.au t = some a) : 0 ≤ a ∧ a ≤ 59 := h _ (auG_mem hg)
theorem AuR.step {rev : Tx → Bool} {s : TS} (h : AuR s) (r : RV) : AuR (tstep rev s r) := by
  unfold tstep
  split
  · next hv =>
    split
    · split
      · exact h
      · intro q hq
        rcases List.mem_append.1 hq with hq | hq
        · exact h q hq
        · rw [List.mem_singleton] at hq
          subst hq
          exact validR_au hv
    · split
      · exact h
      · exact h
  · exact h
theorem AuR.all (rev : Tx → Bool) (l : List RV) : AuR (tsF rev l) := by
  have : ∀ (l : List RV) (s : TS), AuR s → AuR (l.foldl (tstep rev) s) := by
    intro l
    induction l with
    | nil => exact fun s h => h
    | cons r l ih => exact fun s h => ih _ (h.step r)
  exact this l _ AuR.nil
structure OfC (V u1 w : World) (n gp b1 b2 b3 b4 : Nat) (M1 : Lit → Option Value) (m1 : Nat) (N : List Int) (es : List Sx) (m3 : Nat) : Prop where
  of : OfA V w n gp b1 b2 b3 M1 m1 N
  mp : MapAt w Tryz.prog 9 b4 (revM es) m3
  bt : But (fun b => b = b4) u1 w
  hi : gp < b4
theorem OfC.keep {V u1 u u' : World} {n gp b1 b2 b3 b4 : Nat} {M1 : Lit → Option Value} {m1 : Nat} {N : List Int} {es : List Sx} {m3 : Nat} (h : OfC V u1 u n gp b1 b2 b3 b4 M1 m1 N es m3) (hb : Below u.heap.size u u') : OfC V u1 u' n gp b1 b2 b3 b4 M1 m1 N es m3 :=
  ⟨h.of.keep hb, h.mp.same (hb.block _ h.mp.lt), h.bt.trans (But.of_below hb), h.hi⟩
theorem OfC.up3 {V u1 u u' : World} {n gp b1 b2 b3 b4 : Nat} {M1 : Lit → Option Value} {m1 : Nat} {N : List Int} {es es' : List Sx} {m3 m3' : Nat} (h : OfC V u1 u n gp b1 b2 b3 b4 M1 m1 N es m3) (hm : MapAt u' Tryz.prog 9 b4 (revM es') m3') (hg : u.grownBy u' (some b4)) : OfC V u1 u' n gp b1 b2 b3 b4 M1 m1 N es' m3' := by
  have l1 := h.of.l1
  have l2 := h.of.l2
  have l3 := h.of.l3
  have l4 := h.hi
  have z1 := h.of.z1
  have o := h.of
  have kk : ∀ k, k < u.heap.size → k ≠ b4 → u'.heap[k]? = u.heap[k]? := fun k h1 h2 => hg.block k h1 (fun e => by injection e with e; exact h2 e)
  exact ⟨⟨o.bel.grown hg o.bel.size (fun k e => by cases e; omega), (kk _ (lt_of_block o.g) (by omega)).trans o.g, (kk _ (lt_of_block o.ne) (by omega)).trans o.ne, o.a1.same (kk _ o.a1.lt (by omega)), o.a2.same (kk _ o.a2.lt (by omega)), o.z1, o.z2, o.z3, o.d1, o.d2, o.d3, o.l1, o.l2, o.l3, o.nl⟩, hm, h.bt.trans ⟨hg.os, hg.tape, hg.output, hg.size, fun k h1 h2 => kk k h1 h2⟩, h.hi⟩
theorem OfB.start {V u : World} {n gp b1 b2 b3 b4 b5 b6 : Nat} {M1 M3 : Lit → Option Value} {m1 m3 : Nat} {N : List Int} (h : OfA V u n gp b1 b2 b3 M1 m1 N) (h3 : MapAt u Tryz.prog 9 b4 M3 m3) (h4 : u.heap[b5]? = some (.map #[] 0)) (h5 : u.heap[b6]? = some (.map #[] 0)) (l4 : gp < b4) (l5 : b4 < b5) (l6 : b5 < b6) : OfB V u n ⟨gp, b1, b2, b3, b4, b5, b6⟩ M1 (fun _ => none) M3 (auM []) (fun _ => none) m1 0 m3 0 0 N :=
  ⟨h.bel, h.g, h.ne, h.a1, h.a2, h3, by rw [auM_nil]; exact MapAt.empty h4, MapAt.empty h5, h.z1, h.z2, h.z3, h.d1, h.d2, h.d3, h.l1, h.l2, h.l3, l4, l5, l6, h.nl⟩
theorem recB_self (r : RV) : recB r r.yes = rvL r := by
  unfold recB
  rw [show r.yes = r.yes from rfl]
  rfl
theorem recB_len (r : RV) (b : Bool) : (recB r b).length = 21 := by unfold recB; rw [List.length_set]; rfl
theorem hasS_take {es : List Sx} (h : (es.map (·.id)).Nodup) {k : Nat} (hk : k < es.length) : hasS (es.take k) es[k].id = false := by
  unfold hasS
  rw [List.any_eq_false]
  intro e he hh
  rw [decide_eq_true_eq] at hh
  obtain ⟨i, hi, e1⟩ := List.getElem_of_mem he
  rw [List.length_take] at hi
  rw [List.getElem_take] at e1
  have hp := List.pairwise_iff_getElem.1 h i k (by rw [List.length_map]; omega) (by rw [List.length_map]; exact hk) (by omega)
  apply hp
  rw [List.getElem_map, List.getElem_map, e1]
  exact hh
theorem own_slB {w : World} {B size n : Nat} {e : TypeId} {v : Value} {X : List Value} (h : w.ownsRow B e size v n X) : ∃ A c, v = .slice A n c ∧ Rd w A X ∧ ∀ ad, A = some ad → B ≤ ad.block := by
  rcases h.2 with ⟨rfl, rfl⟩ | ⟨g, cap, cur, rfl, hgb, hg, h1, h2, h3, ht⟩
  · exact ⟨none, 0, rfl, own_rdG h, fun ad e => by cases e⟩
  · exact ⟨_, _, rfl, own_rdG h, fun ad e => by cases e; exact hgb⟩
def OfR (V u : World) (n : Nat) (q : OfQ) (ms : List Int) (es : List Sx) (m1 m3 : Nat) (base : Int) (s : TS) (k : Nat) : Prop :=
  ∃ M5 m4 m5, m4 ≤ k ∧ m5 ≤ k ∧ OfB V u n q (modM ms n) (fun _ => none) (revM es) (auM s.au) M5 m1 0 m3 m4 m5 (ndL base s n) ∧ LastM M5 s.mr
theorem OfR.keep {V u u' : World} {n : Nat} {q : OfQ} {ms : List Int} {es : List Sx} {m1 m3 : Nat} {base : Int} {s : TS} {k : Nat} (h : OfR V u n q ms es m1 m3 base s k) (hb : Below u.heap.size u u') : OfR V u' n q ms es m1 m3 base s k := by
  obtain ⟨M5, m4, m5, h1, h2, h3, h4⟩ := h
  exact ⟨M5, m4, m5, h1, h2, h3.keep hb, h4⟩
theorem OfR.next {V u : World} {n : Nat} {q : OfQ} {ms : List Int} {es : List Sx} {m1 m3 : Nat} {base : Int} {s : TS} {k : Nat} (h : OfR V u n q ms es m1 m3 base s k) : OfR V u n q ms es m1 m3 base s (k + 1) := by
  obtain ⟨M5, m4, m5, h1, h2, h3, h4⟩ := h
  exact ⟨M5, m4, m5, by omega, by omega, h3, h4⟩
theorem OfR.bel {V u : World} {n : Nat} {q : OfQ} {ms : List Int} {es : List Sx} {m1 m3 : Nat} {base : Int} {s : TS} {k : Nat} (h : OfR V u n q ms es m1 m3 base s k) : Below V.heap.size V u := by
  obtain ⟨M5, m4, m5, h1, h2, h3, h4⟩ := h
  exact h3.bel
structure OfG (V u : World) (n : Nat) (q : OfQ) (it : Nat) (M1 M2 M3 M4 M5 : Lit → Option Value) (m1 m2 m3 m4 m5 : Nat) (N : List Int) (left : Lit → Bool) (cnt j : Nat) : Prop where
  eb : OfB V u n q M1 M2 M3 M4 M5 m1 m2 m3 m4 m5 N
  rg : MapRg u Tryz.prog 173 q.b6 it M5 m5 left cnt
  le : m2 + cnt + j ≤ m5
  hi : q.b6 < it
  lt : it < u.heap.size
section
variable {V u u' : World} {n it : Nat} {q : OfQ} {M1 M2 M3 M4 M5 : Lit → Option Value} {m1 m2 m3 m4 m5 : Nat} {N : List Int} {left : Lit → Bool} {cnt j : Nat}
theorem OfG.keep (h : OfG V u n q it M1 M2 M3 M4 M5 m1 m2 m3 m4 m5 N left cnt j) (hb : Below u.heap.size u u') : OfG V u' n q it M1 M2 M3 M4 M5 m1 m2 m3 m4 m5 N left cnt j := by
  have hi := h.hi
  have lt := h.lt
  exact ⟨h.eb.keep hb, h.rg.same (hb.block _ (by omega)) (hb.block _ lt), h.le, hi, Nat.lt_of_lt_of_le lt hb.size⟩
theorem OfG.drop (h : OfG V u n q it M1 M2 M3 M4 M5 m1 m2 m3 m4 m5 N left cnt j) : OfG V u n q it M1 M2 M3 M4 M5 m1 m2 m3 m4 m5 N left cnt 0 :=
  ⟨h.eb, h.rg, by have := h.le; omega, h.hi, h.lt⟩
theorem OfG.next {left' : Lit → Bool} {cnt' : Nat} (h : OfG V u n q it M1 M2 M3 M4 M5 m1 m2 m3 m4 m5 N left cnt 0) (hr : MapRg u' Tryz.prog 173 q.b6 it M5 m5 left' cnt') (hlt : cnt' < cnt) (hg : u.grownBy u' (some it)) (hs : u'.heap.size = u.heap.size) : OfG V u' n q it M1 M2 M3 M4 M5 m1 m2 m3 m4 m5 N left' cnt' 1 := by
  have hi := h.hi
  have le := h.le
  have l1 := h.lt
  have hb : Below (q.b6 + 1) u u' := (Below.refl _ _).grown hg (by omega) (fun k e => by cases e; exact hi)
  exact ⟨h.eb.keepB hb, hr, by omega, hi, by omega⟩
theorem OfG.up2 {M2' : Lit → Option Value} {m2' : Nat} (h : OfG V u n q it M1 M2 M3 M4 M5 m1 m2 m3 m4 m5 N left cnt 1) (hm : MapAt u' Tryz.prog 166 q.b2 M2' m2') (hg : u.grownBy u' (some q.b2)) (hle : m2' ≤ m2 + 1) : OfG V u' n q it M1 M2' M3 M4 M5 m1 m2' m3 m4 m5 N left cnt 0 := by
  have hi := h.hi
  have le := h.le
  have lt := h.lt
  have l2 := h.eb.l2
  have l4 := h.eb.l4
  have l5 := h.eb.l5
  have l6 := h.eb.l6
  exact ⟨h.eb.up2 hm hg, h.rg.same (hg.block _ (by omega) (fun e => by injection e with e; omega)) (hg.block _ lt (fun e => by injection e with e; omega)), by omega, hi, Nat.lt_of_lt_of_le lt hg.size⟩
end
theorem OfG.fin {V u : World} {n it : Nat} {q : OfQ} {ms : List Int} {M2 M3 M4 M5 : Lit → Option Value} {m1 m2 m3 m4 m5 : Nat} {N : List Int} {left : Lit → Bool} {cnt j : Nat} {rev : Tx → Bool} {s : TS} (h : OfG V u n q it (modM ms n) M2 M3 M4 M5 m1 m2 m3 m4 m5 N left cnt j) (hc : ConR rev s n left M2) (hl : ∀ kl, left kl = false) (hn : n ≤ 1000) :
    GrAt u ⟨q.gp, q.b1, q.b2, q.b3, m1, m2, modM ms n, M2⟩ ⟨n, fun i => inI ms (i : Int), fun k i => confT rev s n (k : Int) (i : Int), N⟩ ∧ GP.lt ⟨q.gp, q.b1, q.b2, q.b3, m1, m2, modM ms n, M2⟩ u.heap.size := by
  have e := h.eb
  refine ⟨⟨e.g, e.a1, fun kl v hv0 => ?_, fun i hi hm => ?_, e.a2, fun k i hk hi => hc.fin hl hn k i hk hi, e.ne, e.nl, hn⟩, ⟨lt_of_block e.g, e.a1.lt, e.a2.lt, lt_of_block e.ne⟩⟩
  · have hv : modM ms n kl = some v := hv0
    clear hv0
    unfold modM at hv
    split at hv
    · next v' =>
      split at hv
      · next hh =>
        refine ⟨v'.toNat, by show v'.toNat < n; omega, by congr 1; omega, ?_⟩
        show inI ms ((v'.toNat : Nat) : Int) = true
        rw [show ((v'.toNat : Nat) : Int) = v' by omega]
        exact hh.1
      · cases hv
    · cases hv
  · show (modM ms n (.int .i64 (i : Int))).isSome = true
    have hm : inI ms (i : Int) = true := hm
    have hi : i < n := hi
    show (if inI ms (i : Int) = true ∧ 0 ≤ (i : Int) ∧ (i : Int) < (n : Int) then some (Value.bool true) else none).isSome = true
    rw [if_pos ⟨hm, by omega, by omega⟩]; rfl
theorem setCell_alloc {w : World} {o : Obj} {g i : Nat} {v : Value} (h : g < w.heap.size) : (w.alloc o).setCell ⟨g, i, none⟩ v = (w.setCell ⟨g, i, none⟩ v).alloc o := by
  have : ∀ (a : Array Obj) (f : Obj → Obj), g < a.size → (a.push o).modify g f = (a.modify g f).push o := by
    intro a f hg
    apply Array.ext
    · simp
    · intro k h1 h2
      simp [Array.getElem_modify, Array.getElem_push]
      by_cases e : g = k
      · subst e; simp [hg]
      · simp [e]
  unfold World.setCell World.alloc
  dsimp only
  rw [this _ _ h]
theorem setCells_alloc {o : Obj} {g : Nat} : ∀ (cs : List Value) (i : Nat) (w : World), g < w.heap.size → (w.alloc o).setCells g i cs = (w.setCells g i cs).alloc o
  | [], _, _, _ => rfl
  | v :: cs, i, w, h => by
    show ((w.alloc o).setCell ⟨g, i, none⟩ v).setCells g (i + 1) cs = ((w.setCell ⟨g, i, none⟩ v).setCells g (i + 1) cs).alloc o
    rw [setCell_alloc h]
    exact setCells_alloc cs (i + 1) _ (by simpa using h)
theorem mrec_szB (r : RV) (b : Bool) : (Tryz.prog.info? 56).map (·.size) = some (recB r b).length := by rw [recB_len]; kernel_rfl
theorem recB_one (r : RV) (b : Bool) {w : World} (h : RvIs w r) : (recB r b).toArray.all (·.oneCell') = true := by
  have := rvL_one r ⟨w, h⟩
  rw [Array.all_eq_true_iff_forall_mem] at this ⊢
  intro y hy
  have hy : y ∈ recB r b := by simpa using hy
  unfold recB at hy
  rcases List.mem_or_eq_of_mem_set hy with hy | rfl
  · exact this y (by simpa using hy)
  · rfl
end Go.Proofs.YtniklmikdkjgiaaGreatDoor
namespace Go.Proofs.YtniklmikdkjgiaaGreatDoor
open Go.RowKit
def lvT (x : WoV) (l : List RV) : List Int := levelsT (gdT x l).M (gdT x l).C (gdT x l).need (gdT x l).n
theorem lvT_len (x : WoV) (l : List RV) : (lvT x l).length = x.keys.length := (levels_fin _ _ _ _).len
theorem idC_valid (c : Rc) (h : idC c ≠ []) : validR c = true := by
  unfold idC at h
  split at h
  · next h1 => exact h1
  · exact absurd rfl h
theorem mark_target (r : RV) (h2 : r.kind = 2) (h : validR r.c = true) : r.target ≠ [] := by
  have hk : kindR r.c = true := by
    unfold validR at h
    rw [Bool.and_eq_true] at h
    exact h.2
  unfold kindR at hk
  have e : r.c.kind = 2 := h2
  rw [if_neg (by rw [e]; decide), if_pos e] at hk
  unfold finR at hk
  rw [Bool.and_eq_true] at hk
  have hd : Dg.isD r.target = true := by
    have := hk.2
    have e3 : r.c.target = r.target := rfl
    rw [e3] at this
    simpa using this
  intro e2
  rw [e2] at hd
  exact absurd hd (by decide)
theorem lvT_marks (x : WoV) (l : List RV) : lvT x (lessM l l.length) = lvT x l := by
  have e1 : revT x.mods (lessM l l.length) = revT x.mods l := by
    funext t
    unfold revT
    rw [ent_marks _ _ _ (Nat.le_refl _), List.take_length]
  have R := relM idC_valid mark_target (revT x.mods l) l l.length (Nat.le_refl _)
  rw [List.take_length] at R
  have e2 : (gdT x (lessM l l.length)) = gdT x l := by
    unfold gdT
    rw [e1]
    congr 1
    · funext k i
      exact conf_marks idC_valid mark_target _ _ _ _ _
    · apply List.map_congr_left
      intro i hi
      unfold needT
      rw [R.nd]
  unfold lvT
  rw [e2]
end Go.Proofs.YtniklmikdkjgiaaGreatDoor
namespace Go.Proofs.YtniklmikdkjgiaaGreatDoor
open Go.RowKit
def trB (m : Int) (p : Pt) : Bool := decide (p.1 = m) && decide (0 < p.2)
abbrev MbAt (bf : Nat) (m : Int) (w : World) : Prop := Stays bf (.cells #[.int .i64 m] 3 (0, 0)) w
theorem tru1_any (bf : Nat) (m : Int) (p : Pt) (w : World) (h : MbAt bf m w) :
    Calls Tryz.prog 126 #[.agg #[.int .i64 p.1, .int .i64 p.2], .pointer (some ⟨bf, 0, none⟩)] w fun e w' => e = .returned (.bool (trB m p)) ∧ Below w.heap.size w w' := by
  obtain ⟨x, y⟩ := p
  dsimp only
  have BH : Hid (Below w.heap.size w (w.alloc (.cells #[.int .i64 x, .int .i64 y] 69))) := Lib.hid ((Below.refl _ _).alloc (Nat.le_refl _) _)
  obtain ⟨W, hW⟩ : ∃ W, W = w.alloc (.cells #[.int .i64 x, .int .i64 y] 69) := ⟨_, rfl⟩
  obtain ⟨bx, hbx⟩ : ∃ bx, w.heap.size = bx := ⟨_, rfl⟩
  rw [← hW] at BH
  have HX : Hid (W.heap[bx]? = some (.cells #[.int .i64 x, .int .i64 y] 69 (0, 0))) := Lib.hid (by rw [hW, ← hbx]; exact heap_alloc_new w _)
  have HF : Hid (MbAt bf m W) := Lib.hid (h.below (by rw [hbx] at BH ⊢; exact BH.out))
  have k0 : W.cell? ⟨bx, 0, none⟩ = some (.int .i64 x) := by rw [Lib.cell_of_heap HX.out]; rfl
  have k1 : W.cell? ⟨bx, 1, none⟩ = some (.int .i64 y) := by rw [Lib.cell_of_heap HX.out]; rfl
  have kf : W.cell? ⟨bf, 0, none⟩ = some (.int .i64 m) := by rw [Lib.cell_of_heap HF.out]; rfl
  have PM : Hid (trB m (x, y) = (decide (x = m) && decide (0 < y))) := Lib.hid rfl
  clear h HF HX
  go_enter Tryz.func126, Tryz.ntmps126
  go_upto_region 1 with fail
  try rw [hbx]
  rw [← hW]
  clear hW hbx
  by_cases h1 : x = m
  · subst h1
    have g1 : (x == x) = true := by simp
    go_wp2_with fail
    go_ret
    exact ⟨by rw [PM.out]; simp, BH.out⟩
  · have g1 : (x == m) = false := by simpa using h1
    have H1 := Lib.hid h1
    clear h1
    go_wp2_with fail
    go_ret
    exact ⟨by rw [PM.out, decide_eq_false H1.out]; rfl, BH.out⟩
theorem idxlv_any (bf : Nat) (m : Int) (A : Option Addr) (n c : Nat) (l : List Pt) (w : World) (hn : n = l.length) (hl : n ≤ 1000000) (h : Rd w A (ptsL l)) (hf : MbAt bf m w) :
    Calls Tryz.prog 157 #[.slice A n c, .func (.func 126) #[] #[.pointer (some ⟨bf, 0, none⟩)]] w fun e w' => (∃ i : Int, e = .returned (.int .i64 i) ∧ decide (0 ≤ i) = l.any (trB m)) ∧ Below w.heap.size w w' := by
  have H := Lib.hid h
  have HN := Lib.hid hn
  have HF := Lib.hid hf
  obtain ⟨R, hR⟩ : ∃ R, l.any (trB m) = R := ⟨_, rfl⟩
  have ST : Hid (R = (l.drop 0).any (trB m)) := Lib.hid hR.symm
  have HB : Hid (Below w.heap.size w w) := Lib.hid (Below.refl _ _)
  rw [hR]
  clear hR h hn hf
  go_enter Tryz.func157, Tryz.ntmps157
  go_wp2_with fail
  go_loopw [8] (fun s8 wr => ∃ k : Nat, k ≤ n ∧ s8 = .int .i64 (k : Int) ∧ Hid (R = (l.drop k).any (trB m)) ∧ Hid (Below w.heap.size w wr)) (fun i _ => n - (intOf i).toNat)
  case atStart => exact ⟨0, Nat.zero_le _, rfl, ST, HB⟩
  case round =>
    clear ST HB
    obtain ⟨k, hkn, rfl, RK, BL⟩ := hrel
    by_cases hlt : k < n
    · have hkl : k < l.length := by rw [← HN.out]; exact hlt
      have d1 : (k : Int) < (n : Int) := by omega
      have d2 : (0 : Int) ≤ (k : Int) := by omega
      obtain ⟨b, off, rfl, hbz, c0, c1⟩ := pts_at (H.out.below BL.out) hkl
      have RK2 : Hid (R = (trB m l[k] || (l.drop (k + 1)).any (trB m))) := Lib.hid (by rw [RK.out, List.drop_eq_getElem_cons hkl, List.any_cons])
      have CS := Lib.hid (tru1_any bf m l[k] wr (HF.out.below BL.out))
      generalize l[k] = s at *
      generalize trB m s = os at *
      go_wp2_with fail
      refine CS.out.mono ?_
      rintro e w1 ⟨rfl, b1⟩
      have BL2 := Lib.hid (BL.out.trans (b1.mono BL.out.size))
      clear b1 CS RK c0 c1
      cases os
      · have RK3 : Hid (R = (l.drop (k + 1)).any (trB m)) := Lib.hid (by rw [RK2.out]; rfl)
        clear RK2
        go_wp2_with fail
        exact ⟨⟨k + 1, by omega, by go_num, RK3, BL2⟩, by simp [intOf]; omega⟩
      · have RT : Hid (R = true) := Lib.hid (by rw [RK2.out]; rfl)
        go_wp2_with fail
        go_ret
        exact ⟨⟨(k : Int), rfl, by rw [RT.out, decide_eq_true d2]⟩, BL2.out⟩
    · have d1 : ¬ (k : Int) < (n : Int) := by omega
      have RF : Hid (R = false) := Lib.hid (by rw [RK.out, List.drop_eq_nil_of_le (by rw [← HN.out]; omega)]; rfl)
      go_wp2_with fail
      go_ret
      exact ⟨⟨-1, rfl, by rw [RF.out]; rfl⟩, BL.out⟩
theorem haslv_any (bf : Nat) (m : Int) (A : Option Addr) (n c : Nat) (l : List Pt) (w : World) (hn : n = l.length) (hl : n ≤ 1000000) (h : Rd w A (ptsL l)) (hf : MbAt bf m w) :
    Calls Tryz.prog 125 #[.slice A n c, .func (.func 126) #[] #[.pointer (some ⟨bf, 0, none⟩)]] w fun e w' => e = .returned (.bool (l.any (trB m))) ∧ Below w.heap.size w w' := by
  have IX := Lib.hid (idxlv_any bf m A n c l w hn hl h hf)
  generalize l.any (trB m) = R at *
  clear hn h hf
  go_enter Tryz.func125, Tryz.ntmps125
  go_wp2_with fail
  refine IX.out.mono ?_
  rintro e w1 ⟨⟨i, rfl, hi⟩, bt⟩
  have BT := Lib.hid bt
  clear bt IX
  cases R
  · go_wp2_with fail
    go_ret
    exact ⟨rfl, BT.out⟩
  · go_wp2_with fail
    go_ret
    exact ⟨rfl, BT.out⟩
end Go.Proofs.YtniklmikdkjgiaaGreatDoor
namespace Go.Proofs.YtniklmikdkjgiaaGreatDoor
open Go.RowKit
theorem same30_any (A B : Option Addr) (n c d : Nat) (L : List Pt) (w : World) (hn : n = L.length) (hl : n ≤ 1000) (hA : Rd w A (ptsL L)) (hB : Rd w B (ptsL L)) :
    Calls Tryz.prog 44 #[.slice A n c, .slice B n d] w fun e w' => e = .returned (.bool true) ∧ Below w.heap.size w w' := by
  have HA := Lib.hid hA
  have HB := Lib.hid hB
  have HN := Lib.hid hn
  have S0 : Hid (Below w.heap.size w w) := Lib.hid (Below.refl _ _)
  have gn : ((n : Int) != (n : Int)) = false := by simp
  clear hA hB hn
  go_enter Tryz.func44, Tryz.ntmps44
  go_wp2_with fail
  go_loopw [5] (fun s5 wr => ∃ k : Nat, k ≤ n ∧ s5 = .int .i64 (k : Int) ∧ Hid (Below w.heap.size w wr)) (fun i _ => n - (intOf i).toNat)
  case atStart => exact ⟨0, Nat.zero_le _, rfl, S0⟩
  case round =>
    clear S0
    obtain ⟨k, hk, rfl, BL⟩ := hrel
    by_cases hlt : k < n
    · have hkl : k < L.length := by rw [← HN.out]; exact hlt
      have d1 : (k : Int) < (n : Int) := by omega
      have d2 : (0 : Int) ≤ (k : Int) := by omega
      obtain ⟨b, off, rfl, hb, c0, c1⟩ := pts_at (HA.out.below BL.out) hkl
      obtain ⟨b2, off2, rfl, hb2, c2, c3⟩ := pts_at (HB.out.below BL.out) hkl
      generalize L[k] = p at *
      obtain ⟨y, z⟩ := p
      dsimp only at c0 c1 c2 c3
      have gy : (y == y) = true := by simp
      have gz : (z == z) = true := by simp
      go_wp2_with fail
      go_quiet (fail)
      go_wp2_with fail
      exact ⟨⟨k + 1, by omega, by go_num, Lib.hid (below_drewN BL.out _)⟩, by simp [intOf]; omega⟩
    · obtain rfl : n = k := by omega
      have d1 : ¬ (n : Int) < (n : Int) := by omega
      go_wp2_with fail
      go_ret
      exact ⟨rfl, BL.out⟩
end Go.Proofs.YtniklmikdkjgiaaGreatDoor
