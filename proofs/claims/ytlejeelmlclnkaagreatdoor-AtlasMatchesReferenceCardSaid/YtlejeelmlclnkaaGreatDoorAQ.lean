/- PLAIN LAWS OF DIFFERENCES AND PATCHES. No program is spoken of here. -/
import Derived.Test.YtlejeelmlclnkaaGreatDoorAP
set_option linter.unusedSimpArgs false
set_option linter.unusedVariables false
namespace Go.Proofs.YtlejeelmlclnkaaGreatDoor.At
structure Dl where
  id : T
  was : Bool
  is : Bool
  old : Ob
  new : Ob
def pairsF : Nat → List Ob → List Ob → List Dl
  | 0, _, _ => []
  | _ + 1, [], [] => []
  | f + 1, x :: a, [] => ⟨x.id, true, false, x, zeroOb⟩ :: pairsF f a []
  | f + 1, [], y :: b => ⟨y.id, false, true, zeroOb, y⟩ :: pairsF f [] b
  | f + 1, x :: a, y :: b =>
    if x.id = y.id then ⟨x.id, true, true, x, y⟩ :: pairsF f a b
    else if lt x.id y.id = true then ⟨x.id, true, false, x, zeroOb⟩ :: pairsF f a (y :: b)
    else ⟨y.id, false, true, zeroOb, y⟩ :: pairsF f (x :: a) b
def differs (d : Dl) : Bool := decide (d.was ≠ d.is) || !sameO d.old d.new
def diffG (a b : List Ob) : List Dl := (pairsF (a.length + b.length) a b).filter differs
def diffF (a b : List Ob) : List Dl := if validM a && validM b then diffG a b else []
/-- the difference of two sides -/
def dOf (id : T) (x y : Option Ob) : Dl := ⟨id, x.isSome, y.isSome, x.getD zeroOb, y.getD zeroOb⟩
def SrtD (l : List Dl) : Prop := l.Pairwise fun a b => lt a.id b.id = true
theorem mem_pairs : ∀ {f : Nat} {a b : List Ob}, a.length + b.length ≤ f → Srt a → Srt b → ∀ {d : Dl}, d ∈ pairsF f a b ↔ (look a d.id ≠ none ∨ look b d.id ≠ none) ∧ d = dOf d.id (look a d.id) (look b d.id)
  | 0, [], [], _, _, _, d => by simp [pairsF, look]
  | 0, _ :: _, _, h, _, _, _ => by simp at h
  | 0, [], _ :: _, h, _, _, _ => by simp at h
  | _ + 1, [], [], _, _, _, d => by simp [pairsF, look]
  | f + 1, x :: a, [], h, ha, hb, d => by
    have ha' := List.pairwise_cons.1 ha
    rw [pairsF, List.mem_cons, mem_pairs (by simpa using h) ha'.2 hb]
    have hn : look ([] : List Ob) d.id = none := rfl
    rw [hn]
    by_cases e : x.id = d.id
    · have l1 : look (x :: a) d.id = some x := by unfold look; rw [List.find?_cons_of_pos (by simpa using e)]
      have l2 : look a d.id = none := look_none.2 fun o ho e' => lt_ne (ha'.1 o ho) (e.trans e'.symm)
      rw [l1, l2]
      simp only [ne_eq, not_true_eq_false, or_self, false_and, or_false, reduceCtorEq, not_false_eq_true, true_and]
      constructor
      · intro h; rw [h]; rfl
      · intro h; rw [h, ← e]; rfl
    · have l1 : look (x :: a) d.id = look a d.id := by unfold look; rw [List.find?_cons_of_neg (by simpa using e)]
      rw [l1]
      exact ⟨fun h => h.elim (fun h => absurd (by rw [h]) e) id, .inr⟩
  | f + 1, [], y :: b, h, ha, hb, d => by
    have hb' := List.pairwise_cons.1 hb
    rw [pairsF, List.mem_cons, mem_pairs (by simp at h ⊢; omega) ha hb'.2]
    have hn : look ([] : List Ob) d.id = none := rfl
    rw [hn]
    by_cases e : y.id = d.id
    · have l1 : look (y :: b) d.id = some y := by unfold look; rw [List.find?_cons_of_pos (by simpa using e)]
      have l2 : look b d.id = none := look_none.2 fun o ho e' => lt_ne (hb'.1 o ho) (e.trans e'.symm)
      rw [l1, l2]
      simp only [ne_eq, not_true_eq_false, or_self, false_and, or_false, reduceCtorEq, not_false_eq_true, true_and, or_true]
      constructor
      · intro h; rw [h]; rfl
      · intro h; rw [h, ← e]; rfl
    · have l1 : look (y :: b) d.id = look b d.id := by unfold look; rw [List.find?_cons_of_neg (by simpa using e)]
      rw [l1]
      exact ⟨fun h => h.elim (fun h => absurd (by rw [h]) e) id, .inr⟩
  | f + 1, x :: a, y :: b, h, ha, hb, d => by
    have ha' := List.pairwise_cons.1 ha
    have hb' := List.pairwise_cons.1 hb
    rw [pairsF]
    split
    · rename_i hxy
      rw [List.mem_cons, mem_pairs (by simp at h ⊢; omega) ha'.2 hb'.2]
      by_cases e : x.id = d.id
      · have l1 : look (x :: a) d.id = some x := by unfold look; rw [List.find?_cons_of_pos (by simpa using e)]
        have l2 : look a d.id = none := look_none.2 fun o ho e' => lt_ne (ha'.1 o ho) (e.trans e'.symm)
        have l3 : look (y :: b) d.id = some y := by unfold look; rw [List.find?_cons_of_pos (by simpa using hxy.symm.trans e)]
        have l4 : look b d.id = none := look_none.2 fun o ho e' => lt_ne (hb'.1 o ho) ((hxy.symm.trans e).trans e'.symm)
        rw [l1, l2, l3, l4]
        simp only [ne_eq, not_true_eq_false, or_self, false_and, or_false, reduceCtorEq, not_false_eq_true, true_and]
        constructor
        · intro h; rw [h]; rfl
        · intro h; rw [h, ← e]; rfl
      · have l1 : look (x :: a) d.id = look a d.id := by unfold look; rw [List.find?_cons_of_neg (by simpa using e)]
        have l2 : look (y :: b) d.id = look b d.id := by unfold look; rw [List.find?_cons_of_neg (by simp; exact fun e' => e (hxy.trans e'))]
        rw [l1, l2]
        exact ⟨fun h => h.elim (fun h => absurd (by rw [h]) e) id, .inr⟩
    · rename_i hxy
      split
      · rename_i hlt
        rw [List.mem_cons, mem_pairs (by simp at h ⊢; omega) ha'.2 hb]
        by_cases e : x.id = d.id
        · have l1 : look (x :: a) d.id = some x := by unfold look; rw [List.find?_cons_of_pos (by simpa using e)]
          have l2 : look a d.id = none := look_none.2 fun o ho e' => lt_ne (ha'.1 o ho) (e.trans e'.symm)
          have l3 : look (y :: b) d.id = none := look_none.2 fun o ho e' => by
            rcases List.mem_cons.1 ho with rfl | ho
            · exact hxy (e.trans e'.symm)
            · exact lt_ne (lt_trans hlt (hb'.1 o ho)) (e.trans e'.symm)
          rw [l1, l2, l3]
          simp only [ne_eq, not_true_eq_false, or_self, false_and, or_false, reduceCtorEq, not_false_eq_true, true_and]
          constructor
          · intro h; rw [h]; rfl
          · intro h; rw [h, ← e]; rfl
        · have l1 : look (x :: a) d.id = look a d.id := by unfold look; rw [List.find?_cons_of_neg (by simpa using e)]
          rw [l1]
          exact ⟨fun h => h.elim (fun h => absurd (by rw [h]) e) id, .inr⟩
      · rename_i hlt
        have hgt : lt y.id x.id = true := (lt_total hxy).resolve_left hlt
        rw [List.mem_cons, mem_pairs (by simp at h ⊢; omega) ha hb'.2]
        by_cases e : y.id = d.id
        · have l1 : look (y :: b) d.id = some y := by unfold look; rw [List.find?_cons_of_pos (by simpa using e)]
          have l2 : look b d.id = none := look_none.2 fun o ho e' => lt_ne (hb'.1 o ho) (e.trans e'.symm)
          have l3 : look (x :: a) d.id = none := look_none.2 fun o ho e' => by
            rcases List.mem_cons.1 ho with rfl | ho
            · exact hxy (e'.trans e.symm)
            · exact lt_ne (lt_trans hgt (ha'.1 o ho)) (e.trans e'.symm)
          rw [l1, l2, l3]
          simp only [ne_eq, not_true_eq_false, or_self, false_and, or_false, reduceCtorEq, not_false_eq_true, true_and, or_true]
          constructor
          · intro h; rw [h]; rfl
          · intro h; rw [h, ← e]; rfl
        · have l1 : look (y :: b) d.id = look b d.id := by unfold look; rw [List.find?_cons_of_neg (by simpa using e)]
          rw [l1]
          exact ⟨fun h => h.elim (fun h => absurd (by rw [h]) e) id, .inr⟩
theorem pairs_ge : ∀ {f : Nat} {a b : List Ob} {k : T}, (∀ o ∈ a, lt k o.id = true) → (∀ o ∈ b, lt k o.id = true) → ∀ d ∈ pairsF f a b, lt k d.id = true
  | 0, _, _, _, _, _, d, hd => by simp [pairsF] at hd
  | _ + 1, [], [], _, _, _, d, hd => by simp [pairsF] at hd
  | f + 1, x :: a, [], k, ha, hb, d, hd => by
    rw [pairsF] at hd
    rcases List.mem_cons.1 hd with rfl | hd
    · exact ha x (by simp)
    · exact pairs_ge (fun o ho => ha o (by simp [ho])) hb d hd
  | f + 1, [], y :: b, k, ha, hb, d, hd => by
    rw [pairsF] at hd
    rcases List.mem_cons.1 hd with rfl | hd
    · exact hb y (by simp)
    · exact pairs_ge ha (fun o ho => hb o (by simp [ho])) d hd
  | f + 1, x :: a, y :: b, k, ha, hb, d, hd => by
    rw [pairsF] at hd
    split at hd
    · rcases List.mem_cons.1 hd with rfl | hd
      · exact ha x (by simp)
      · exact pairs_ge (fun o ho => ha o (by simp [ho])) (fun o ho => hb o (by simp [ho])) d hd
    · split at hd
      · rcases List.mem_cons.1 hd with rfl | hd
        · exact ha x (by simp)
        · exact pairs_ge (fun o ho => ha o (by simp [ho])) hb d hd
      · rcases List.mem_cons.1 hd with rfl | hd
        · exact hb y (by simp)
        · exact pairs_ge ha (fun o ho => hb o (by simp [ho])) d hd
theorem srt_pairs : ∀ {f : Nat} {a b : List Ob}, Srt a → Srt b → SrtD (pairsF f a b)
  | 0, _, _, _, _ => by simp [pairsF, SrtD]
  | _ + 1, [], [], _, _ => by simp [pairsF, SrtD]
  | f + 1, x :: a, [], ha, hb => by
    have ha' := List.pairwise_cons.1 ha
    rw [pairsF]
    exact List.pairwise_cons.2 ⟨pairs_ge ha'.1 (fun o ho => by cases ho), srt_pairs ha'.2 hb⟩
  | f + 1, [], y :: b, ha, hb => by
    have hb' := List.pairwise_cons.1 hb
    rw [pairsF]
    exact List.pairwise_cons.2 ⟨pairs_ge (fun o ho => by cases ho) hb'.1, srt_pairs ha hb'.2⟩
  | f + 1, x :: a, y :: b, ha, hb => by
    have ha' := List.pairwise_cons.1 ha
    have hb' := List.pairwise_cons.1 hb
    rw [pairsF]
    split
    · rename_i e
      exact List.pairwise_cons.2 ⟨pairs_ge ha'.1 (fun o ho => by show lt x.id o.id = true; rw [e]; exact hb'.1 o ho), srt_pairs ha'.2 hb'.2⟩
    · rename_i e
      split
      · rename_i hl
        refine List.pairwise_cons.2 ⟨pairs_ge ha'.1 (fun o ho => ?_), srt_pairs ha'.2 hb⟩
        rcases List.mem_cons.1 ho with rfl | ho
        · exact hl
        · exact lt_trans hl (hb'.1 o ho)
      · rename_i hl
        have hg := (lt_total e).resolve_left hl
        refine List.pairwise_cons.2 ⟨pairs_ge (fun o ho => ?_) hb'.1, srt_pairs ha hb'.2⟩
        rcases List.mem_cons.1 ho with rfl | ho
        · exact hg
        · exact lt_trans hg (ha'.1 o ho)
theorem srt_diff {a b : List Ob} (ha : Srt a) (hb : Srt b) : SrtD (diffG a b) := List.Pairwise.sublist List.filter_sublist (srt_pairs ha hb)
theorem differs_of {id : T} {x y : Option Ob} (hx : ∀ o, x = some o → o.id = id) (hy : ∀ o, y = some o → o.id = id) : differs (dOf id x y) = true ↔ x ≠ y := by
  unfold differs dOf
  cases x with
  | none =>
    cases y with
    | none => simp [sameO_refl]
    | some y => simp
  | some x =>
    cases y with
    | none => simp
    | some y =>
      simp only [Option.isSome_some, ne_eq, not_true_eq_false, decide_false, Option.getD_some, Bool.false_or, Option.some.injEq]
      rw [Bool.not_eq_true', ← sameO_iff, Bool.not_eq_true]
theorem mem_diff {a b : List Ob} (ha : Srt a) (hb : Srt b) {d : Dl} : d ∈ diffG a b ↔ look a d.id ≠ look b d.id ∧ d = dOf d.id (look a d.id) (look b d.id) := by
  unfold diffG
  rw [List.mem_filter, mem_pairs (Nat.le_refl _) ha hb]
  constructor
  · rintro ⟨⟨h1, h2⟩, h3⟩
    rw [h2, differs_of (fun o => look_id) (fun o => look_id)] at h3
    exact ⟨h3, h2⟩
  · rintro ⟨h1, h2⟩
    refine ⟨⟨?_, h2⟩, ?_⟩
    · cases k : look a d.id with
      | none => rw [k] at h1; exact .inr h1.symm
      | some _ => exact .inl (by simp)
    · rw [h2, differs_of (fun o => look_id) (fun o => look_id)]; exact h1
/-! ### patches -/
def properB (there : Bool) (id : T) (o : Ob) : Bool := if there then decide (id = o.id) && validO o else sameO o zeroOb
def okD (d : Dl) : Bool := (d.was || d.is) && differs d && properB d.was d.id d.old && properB d.is d.id d.new
def deltasFrom : T → List Dl → Bool
  | _, [] => true
  | last, d :: l => lt last d.id && okD d && deltasFrom d.id l
theorem deltasFrom_iff : ∀ {l : List Dl} {last : T}, deltasFrom last l = true ↔ SrtD l ∧ ∀ d ∈ l, okD d = true ∧ lt last d.id = true
  | [], _ => by simp [deltasFrom, SrtD]
  | d :: l, last => by
    unfold SrtD
    rw [deltasFrom, Bool.and_eq_true, Bool.and_eq_true, deltasFrom_iff (l := l), List.pairwise_cons]
    constructor
    · rintro ⟨⟨h1, h2⟩, h3, h4⟩
      refine ⟨⟨fun b hb => (h4 b hb).2, h3⟩, fun x hx => ?_⟩
      rcases List.mem_cons.1 hx with rfl | hx
      · exact ⟨h2, h1⟩
      · exact ⟨(h4 x hx).1, lt_trans h1 (h4 x hx).2⟩
    · rintro ⟨⟨h1, h2⟩, h3⟩
      exact ⟨⟨(h3 d (by simp)).2, (h3 d (by simp)).1⟩, h2, fun x hx => ⟨(h3 x (by simp [hx])).1, h1 x hx⟩⟩
/-- one step: what is put out, and what is left; none if the map is another one -/
def fitB (x : Option Ob) (d : Dl) : Bool := match x with
  | none => !d.was
  | some z => d.was && sameO z d.old
theorem fitB_iff {x : Option Ob} {d : Dl} : fitB x d = true ↔ x = if d.was then some d.old else none := by
  unfold fitB
  cases x with
  | none => cases d.was <;> simp
  | some z =>
    cases d.was
    · simp
    · simp [sameO_iff]
def stepOut (m : List Ob) (d : Dl) : List Ob := below m d.id ++ if d.is then [d.new] else []
def patchGo : List Ob → List Ob → List Dl → Option (List Ob)
  | out, m, [] => some (out ++ m)
  | out, m, d :: l => if fitB (look m d.id) d = true then patchGo (out ++ stepOut m d) (above m d.id) l else none
def patchF (m : List Ob) (l : List Dl) : List Ob × Nat :=
  if deltasFrom [] l && validM m then
    match patchGo [] m l with
    | none => ([], 12)
    | some r => (r, 0)
  else ([], 1)
def lookD (l : List Dl) (id : T) : Option Dl := l.find? fun d => decide (d.id = id)
/-- what a patched map has -/
def after (l : List Dl) (m : List Ob) (id : T) : Option Ob :=
  match lookD l id with
  | none => look m id
  | some d => if d.is then some d.new else none
theorem lookD_cons_ne {d : Dl} {l : List Dl} {id : T} (h : d.id ≠ id) : lookD (d :: l) id = lookD l id := by
  unfold lookD; rw [List.find?_cons_of_neg (by simpa using h)]
theorem lookD_cons_eq {d : Dl} {l : List Dl} : lookD (d :: l) d.id = some d := by
  unfold lookD; rw [List.find?_cons_of_pos (by simp)]
theorem lookD_none {l : List Dl} {id : T} : lookD l id = none ↔ ∀ d ∈ l, d.id ≠ id := by
  unfold lookD; rw [List.find?_eq_none]; simp
theorem lookD_id {l : List Dl} {id : T} {d : Dl} (h : lookD l id = some d) : d.id = id := by have := List.find?_some h; simpa using this
theorem lookD_mem {l : List Dl} {id : T} {d : Dl} (h : lookD l id = some d) : d ∈ l := List.mem_of_find?_eq_some h
theorem srtD_unique : ∀ {l : List Dl}, SrtD l → ∀ {a b : Dl}, a ∈ l → b ∈ l → a.id = b.id → a = b
  | [], _, a, _, ha, _, _ => by cases ha
  | o :: l, h, a, b, ha, hb, e => by
    have h := List.pairwise_cons.1 h
    rcases List.mem_cons.1 ha with e1 | h1
    · rcases List.mem_cons.1 hb with e2 | h2
      · rw [e1, e2]
      · exact absurd (e1 ▸ e) (lt_ne (h.1 b h2))
    · rcases List.mem_cons.1 hb with e2 | h2
      · exact absurd (e2 ▸ e).symm (lt_ne (h.1 a h1))
      · exact srtD_unique h.2 h1 h2 e
theorem lookD_of_mem {l : List Dl} (h : SrtD l) {d : Dl} (hd : d ∈ l) : lookD l d.id = some d := by
  cases k : lookD l d.id with
  | none => rw [lookD_none] at k; exact absurd rfl (k d hd)
  | some b => rw [srtD_unique h (lookD_mem k) hd (lookD_id k)]
theorem srtD_ext : ∀ {a b : List Dl}, SrtD a → SrtD b → (∀ o, o ∈ a ↔ o ∈ b) → a = b
  | [], [], _, _, _ => rfl
  | [], y :: b, _, _, h => by have := (h y).2 (by simp); cases this
  | x :: a, [], _, _, h => by have := (h x).1 (by simp); cases this
  | x :: a, y :: b, ha, hb, h => by
    have ha' := List.pairwise_cons.1 ha
    have hb' := List.pairwise_cons.1 hb
    have e : x = y := by
      rcases List.mem_cons.1 ((h x).1 (by simp)) with e | h1
      · exact e
      · rcases List.mem_cons.1 ((h y).2 (by simp)) with e | h2
        · exact e.symm
        · have := lt_trans (ha'.1 y h2) (hb'.1 x h1)
          rw [lt_irrefl] at this; cases this
    subst e
    refine congrArg _ (srtD_ext ha'.2 hb'.2 fun o => ?_)
    constructor
    · intro ho
      rcases List.mem_cons.1 ((h o).1 (by simp [ho])) with e | h1
      · subst e; have := ha'.1 o ho; rw [lt_irrefl] at this; cases this
      · exact h1
    · intro ho
      rcases List.mem_cons.1 ((h o).2 (by simp [ho])) with e | h1
      · subst e; have := hb'.1 o ho; rw [lt_irrefl] at this; cases this
      · exact h1
theorem look_app {a b : List Ob} {id : T} : look (a ++ b) id = (look a id).or (look b id) := by unfold look; exact List.find?_append
theorem look_above {m : List Ob} (h : Srt m) {k id : T} (hk : lt k id = true) : look (above m k) id = look m id := by
  have hs : Srt (above m k) := srt_sub h List.filter_sublist
  cases e : look m id with
  | none => rw [look_none] at e ⊢; exact fun o ho => e o (mem_above.1 ho).1
  | some z => rw [look_iff hs, mem_above]; exact ⟨⟨look_mem e, by rw [look_id e]; exact hk⟩, look_id e⟩
theorem look_below {m : List Ob} (h : Srt m) {k id : T} (hk : lt id k = true) : look (below m k) id = look m id := by
  have hs : Srt (below m k) := srt_sub h List.filter_sublist
  cases e : look m id with
  | none => rw [look_none] at e ⊢; exact fun o ho => e o (mem_below.1 ho).1
  | some z => rw [look_iff hs, mem_below]; exact ⟨⟨look_mem e, by rw [look_id e]; exact hk⟩, look_id e⟩
theorem look_below_ge {m : List Ob} {k id : T} (hk : lt id k = false) : look (below m k) id = none := by
  rw [look_none]
  intro o ho e
  have := (mem_below.1 ho).2
  rw [e, hk] at this; cases this
theorem look_above_le {m : List Ob} {k id : T} (hk : lt k id = false) : look (above m k) id = none := by
  rw [look_none]
  intro o ho e
  have := (mem_above.1 ho).2
  rw [e, hk] at this; cases this
/-- all differences fit the map -/
def Fits (m : List Ob) (l : List Dl) : Prop := ∀ d ∈ l, look m d.id = if d.was then some d.old else none
/-- the differences name objects of their own Id -/
def Own (l : List Dl) : Prop := ∀ d ∈ l, d.is = true → d.new.id = d.id
theorem patchGo_spec : ∀ {l : List Dl} {out m : List Ob}, Srt m → SrtD l → Own l →
    (Fits m l → ∃ r, patchGo out m l = some (out ++ r) ∧ Srt r ∧ (∀ id, look r id = after l m id) ∧ r.length ≤ m.length + l.length) ∧ (¬ Fits m l → patchGo out m l = none)
  | [], out, m, hm, _, _ => ⟨fun _ => ⟨m, rfl, hm, fun id => rfl, by simp⟩, fun h => absurd (fun d hd => by cases hd) h⟩
  | d :: l, out, m, hm, hl, ho => by
    have hl' := List.pairwise_cons.1 hl
    have hsa : Srt (above m d.id) := srt_sub hm List.filter_sublist
    have ih := @patchGo_spec l (out ++ stepOut m d) (above m d.id) hsa hl'.2 (fun x hx => ho x (by simp [hx]))
    have hf : Fits (above m d.id) l ↔ Fits m l := by
      constructor
      · intro h x hx; rw [← look_above hm (hl'.1 x hx)]; exact h x hx
      · intro h x hx; rw [look_above hm (hl'.1 x hx)]; exact h x hx
    constructor
    · intro h
      obtain ⟨r, h1, h2, h3, h4⟩ := ih.1 (hf.2 fun x hx => h x (by simp [hx]))
      have hd := h d (by simp)
      have hr : ∀ o ∈ r, lt d.id o.id = true := fun o hor => by
        have := look_of_mem h2 hor
        rw [h3] at this
        unfold after at this
        cases k : lookD l o.id with
        | none =>
          rw [k] at this
          exact (mem_above.1 (look_mem this)).2
        | some x =>
          have := hl'.1 x (lookD_mem k)
          rw [lookD_id k] at this
          exact this
      have hnew : ∀ z ∈ (if d.is then [d.new] else []), z.id = d.id := fun z hz => by
        cases hi : d.is
        · rw [hi] at hz; simp at hz
        · rw [hi, if_pos rfl] at hz
          rw [List.mem_singleton.1 hz]; exact ho d (by simp) hi
      refine ⟨stepOut m d ++ r, ?_, ?_, ?_, ?_⟩
      · rw [patchGo, if_pos (fitB_iff.2 hd), h1, List.append_assoc]
      · unfold Srt stepOut
        rw [List.append_assoc, List.pairwise_append, List.pairwise_append]
        refine ⟨srt_sub hm List.filter_sublist, ⟨?_, h2, ?_⟩, ?_⟩
        · cases d.is <;> simp
        · intro a ha b hb; rw [hnew a ha]; exact hr b hb
        · intro a ha b hb
          have ha := (mem_below.1 ha).2
          rcases List.mem_append.1 hb with hb | hb
          · rw [hnew b hb]; exact ha
          · exact lt_trans ha (hr b hb)
      · intro id
        unfold stepOut
        rw [look_app, look_app, h3]
        by_cases e : d.id = id
        · subst e
          have h5 : look (below m d.id) d.id = none := look_below_ge (lt_irrefl _)
          have h6 : after l (above m d.id) d.id = none := by
            unfold after
            rw [lookD_none.2 fun x hx => (lt_ne (hl'.1 x hx)).symm]
            exact look_above_le (lt_irrefl _)
          rw [h5, h6]
          unfold after
          rw [lookD_cons_eq]
          cases hi : d.is
          · simp [look, hi]
          · have := ho d (by simp) hi
            simp [look, this, hi]
        · have h7 : look (if d.is then [d.new] else []) id = none := look_none.2 fun z hz => by rw [hnew z hz]; exact e
          rw [h7]
          unfold after
          rw [lookD_cons_ne e]
          rcases lt_total e with hlt | hgt
          · rw [look_below_ge (lt_asymm hlt)]
            cases lookD l id with
            | none => simp [look_above hm hlt]
            | some x => simp
          · rw [look_below hm hgt]
            rw [lookD_none.2 fun x hx e' => lt_ne (lt_trans hgt (hl'.1 x hx)) e'.symm]
            show ((look m id).or none).or (look (above m d.id) id) = look m id
            rw [look_above_le (lt_asymm hgt)]
            simp
      · have hb : (below m d.id).length + (above m d.id).length ≤ m.length := by
          have := congrArg List.length (parts hm d.id)
          simp only [List.length_append] at this; omega
        unfold stepOut
        have : (if d.is then [d.new] else []).length ≤ 1 := by cases d.is <;> simp
        simp only [List.length_append, List.length_cons]; omega
    · intro h
      rw [patchGo]
      split
      · rename_i hd
        exact ih.2 fun h' => h fun x hx => by
          rcases List.mem_cons.1 hx with e | hx
          · rw [e]; exact fitB_iff.1 hd
          · exact (hf.1 h') x hx
      · rfl
end Go.Proofs.YtlejeelmlclnkaaGreatDoor.At
