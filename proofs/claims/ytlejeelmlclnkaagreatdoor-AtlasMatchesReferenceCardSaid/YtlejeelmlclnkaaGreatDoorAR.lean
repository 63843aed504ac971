/- PLAIN LAWS OF THE STATEMENTS ABOUT MAPS: patches that fit, differences there and back, putting. No program is spoken of here. -/
import Derived.Test.YtlejeelmlclnkaaGreatDoorAQ
set_option linter.unusedSimpArgs false
set_option linter.unusedVariables false
namespace Go.Proofs.YtlejeelmlclnkaaGreatDoor.At
theorem own_ok {l : List Dl} (h : ∀ d ∈ l, okD d = true) : Own l := by
  intro d hd hi
  have := h d hd
  unfold okD at this
  simp only [Bool.and_eq_true] at this
  have h4 := this.2
  unfold properB at h4
  rw [hi, if_pos rfl, Bool.and_eq_true, decide_eq_true_eq] at h4
  exact h4.1.symm
theorem new_ok {d : Dl} (h : okD d = true) (hi : d.is = true) : validO d.new = true := by
  unfold okD at h
  simp only [Bool.and_eq_true] at h
  have h4 := h.2
  unfold properB at h4
  rw [hi, if_pos rfl, Bool.and_eq_true] at h4
  exact h4.2
theorem valid_look {l : List Ob} (hs : Srt l) (hl : l.length ≤ 1000000) (h : ∀ id o, look l id = some o → validO o = true) : validM l = true :=
  validM_iff.2 ⟨hs, fun o ho => h o.id o (look_of_mem hs ho), hl⟩
/-- a patch that fits -/
theorem patch_fits {m : List Ob} {l : List Dl} (hm : validM m = true) (hd : deltasFrom [] l = true) (hf : Fits m l) (hlen : m.length + l.length ≤ 1000000) :
    ∃ r, patchF m l = (r, 0) ∧ validM r = true ∧ (∀ id, look r id = after l m id) ∧ r.length ≤ m.length + l.length := by
  obtain ⟨h1, h2⟩ := deltasFrom_iff.1 hd
  obtain ⟨m1, m2, m3⟩ := validM_iff.1 hm
  obtain ⟨r, h3, h4, h5, h6⟩ := (patchGo_spec (out := []) m1 h1 (own_ok fun d hd => (h2 d hd).1)).1 hf
  refine ⟨r, ?_, valid_look h4 (by omega) (fun id o ho => ?_), h5, h6⟩
  · unfold patchF
    rw [hd, hm, h3]; rfl
  · rw [h5] at ho
    unfold after at ho
    cases k : lookD l id with
    | none => rw [k] at ho; exact m2 o (look_mem ho)
    | some d =>
      rw [k] at ho
      cases hi : d.is
      · simp [hi] at ho
      · simp [hi] at ho
        rw [← ho]
        exact new_ok (h2 d (lookD_mem k)).1 hi
theorem patch_misfits {m : List Ob} {l : List Dl} (hm : validM m = true) (hd : deltasFrom [] l = true) (hf : ¬ Fits m l) : patchF m l = ([], 12) := by
  obtain ⟨h1, h2⟩ := deltasFrom_iff.1 hd
  obtain ⟨m1, m2, m3⟩ := validM_iff.1 hm
  have := (patchGo_spec (out := []) m1 h1 (own_ok fun d hd => (h2 d hd).1)).2 hf
  unfold patchF
  rw [hd, hm, this]; rfl
/-- the differences of two valid maps are valid -/
theorem diff_ok {a b : List Ob} (ha : validM a = true) (hb : validM b = true) {d : Dl} (hd : d ∈ diffG a b) : okD d = true ∧ lt [] d.id = true := by
  obtain ⟨a1, a2, a3⟩ := validM_iff.1 ha
  obtain ⟨b1, b2, b3⟩ := validM_iff.1 hb
  have hdf : differs d = true := (List.mem_filter.1 hd).2
  obtain ⟨h1, h2⟩ := (mem_diff a1 b1).1 hd
  have va : ∀ o, look a d.id = some o → o.id = d.id ∧ validO o = true := fun o ho => ⟨look_id ho, a2 o (look_mem ho)⟩
  have vb : ∀ o, look b d.id = some o → o.id = d.id ∧ validO o = true := fun o ho => ⟨look_id ho, b2 o (look_mem ho)⟩
  have e1 : d.was = (look a d.id).isSome := by rw [h2]; rfl
  have e2 : d.is = (look b d.id).isSome := by rw [h2]; rfl
  have e3 : d.old = (look a d.id).getD zeroOb := by rw [h2]; rfl
  have e4 : d.new = (look b d.id).getD zeroOb := by rw [h2]; rfl
  have p1 : properB d.was d.id d.old = true := by
    rw [e1, e3]
    cases k : look a d.id with
    | none => simp [properB, sameO_refl]
    | some o => obtain ⟨q1, q2⟩ := va o k; simp [properB, q1, q2]
  have p2 : properB d.is d.id d.new = true := by
    rw [e2, e4]
    cases k : look b d.id with
    | none => simp [properB, sameO_refl]
    | some o => obtain ⟨q1, q2⟩ := vb o k; simp [properB, q1, q2]
  have p3 : (d.was || d.is) = true := by
    rw [e1, e2]
    cases k : look a d.id with
    | none =>
      cases k2 : look b d.id with
      | none => rw [k, k2] at h1; exact absurd rfl h1
      | some _ => rfl
    | some _ => rfl
  refine ⟨?_, ?_⟩
  · unfold okD
    rw [p1, p2, p3, hdf]; rfl
  · refine nil_lt fun e => ?_
    cases k : look a d.id with
    | some o => obtain ⟨q1, q2⟩ := va o k; exact valid_id q2 (q1.trans e)
    | none =>
      cases k2 : look b d.id with
      | none => rw [k, k2] at h1; exact h1 rfl
      | some o => obtain ⟨q1, q2⟩ := vb o k2; exact valid_id q2 (q1.trans e)
theorem sub_deltas {a b : List Ob} {l : List Dl} (ha : validM a = true) (hb : validM b = true) (hs : l.Sublist (diffG a b)) : deltasFrom [] l = true :=
  deltasFrom_iff.2 ⟨List.Pairwise.sublist hs (srt_diff (validM_iff.1 ha).1 (validM_iff.1 hb).1), fun _ hd => diff_ok ha hb (hs.subset hd)⟩
theorem diff_old {a b : List Ob} (ha : Srt a) (hb : Srt b) {d : Dl} (hd : d ∈ diffG a b) : look a d.id = if d.was then some d.old else none := by
  obtain ⟨h1, h2⟩ := (mem_diff ha hb).1 hd
  have e1 : d.was = (look a d.id).isSome := by rw [h2]; rfl
  have e3 : d.old = (look a d.id).getD zeroOb := by rw [h2]; rfl
  rw [e1, e3]
  cases look a d.id <;> simp
theorem diff_new {a b : List Ob} (ha : Srt a) (hb : Srt b) {d : Dl} (hd : d ∈ diffG a b) : look b d.id = if d.is then some d.new else none := by
  obtain ⟨h1, h2⟩ := (mem_diff ha hb).1 hd
  have e1 : d.is = (look b d.id).isSome := by rw [h2]; rfl
  have e3 : d.new = (look b d.id).getD zeroOb := by rw [h2]; rfl
  rw [e1, e3]
  cases look b d.id <;> simp
theorem pairs_len : ∀ (f : Nat) (a b : List Ob), (pairsF f a b).length ≤ f
  | 0, _, _ => by simp [pairsF]
  | _ + 1, [], [] => by simp [pairsF]
  | f + 1, x :: a, [] => by have := pairs_len f a []; simp [pairsF]; omega
  | f + 1, [], y :: b => by have := pairs_len f [] b; simp [pairsF]; omega
  | f + 1, x :: a, y :: b => by
    have h1 := pairs_len f a b
    have h2 := pairs_len f a (y :: b)
    have h3 := pairs_len f (x :: a) b
    rw [pairsF]
    split
    · simp; omega
    · split <;> (simp; omega)
theorem diff_none {a b : List Ob} (ha : Srt a) (hb : Srt b) {id : T} (h : lookD (diffG a b) id = none) : look a id = look b id := by
  rcases Classical.em (look a id = look b id) with e | e
  · exact e
  · have hm : dOf id (look a id) (look b id) ∈ diffG a b := (mem_diff ha hb).2 ⟨e, rfl⟩
    exact absurd rfl (lookD_none.1 h _ hm)
theorem not_diff {a b : List Ob} (ha : Srt a) (hb : Srt b) {id : T} (h : ∀ d ∈ diffG a b, d.id ≠ id) : look a id = look b id := diff_none ha hb (lookD_none.2 h)
theorem after_mem {l : List Dl} (hl : SrtD l) {d : Dl} (hd : d ∈ l) (m : List Ob) : after l m d.id = if d.is then some d.new else none := by
  unfold after
  rw [lookD_of_mem hl hd]
theorem after_not {l : List Dl} {id : T} (h : ∀ d ∈ l, d.id ≠ id) (m : List Ob) : after l m id = look m id := by
  unfold after
  rw [lookD_none.2 h]
/-- a map with its differences is the other one -/
theorem patch_diff {a b : List Ob} (ha : validM a = true) (hb : validM b = true) (hl : a.length + (a.length + b.length) ≤ 1000000) : patchF a (diffG a b) = (b, 0) := by
  obtain ⟨a1, a2, a3⟩ := validM_iff.1 ha
  obtain ⟨b1, b2, b3⟩ := validM_iff.1 hb
  have hln : (diffG a b).length ≤ a.length + b.length := by
    unfold diffG
    exact Nat.le_trans (List.length_filter_le _ _) (pairs_len _ _ _)
  obtain ⟨r, h1, h2, h3, -⟩ := patch_fits ha (sub_deltas ha hb (List.Sublist.refl _)) (fun d hd => diff_old a1 b1 hd) (by omega)
  rw [h1]
  refine congrArg (·, 0) (look_ext (validM_iff.1 h2).1 b1 fun id => ?_)
  rw [h3]
  cases k : lookD (diffG a b) id with
  | none => unfold after; rw [k]; exact diff_none a1 b1 k
  | some d =>
    have hm := lookD_mem k
    obtain rfl := lookD_id k
    rw [after_mem (srt_diff a1 b1) hm, diff_new a1 b1 hm]
/-- Old and New exchanged -/
def turnD (d : Dl) : Dl := ⟨d.id, d.is, d.was, d.new, d.old⟩
theorem sameO_comm (x y : Ob) : sameO x y = sameO y x := by
  cases k : sameO x y with
  | true => rw [sameO_iff.1 k]; exact (sameO_refl _).symm
  | false =>
    cases k2 : sameO y x with
    | false => rfl
    | true => rw [sameO_iff.1 k2, sameO_refl] at k; cases k
theorem diff_turn {a b : List Ob} (ha : Srt a) (hb : Srt b) : diffG b a = (diffG a b).map turnD := by
  refine srtD_ext (srt_diff hb ha) ?_ fun d => ?_
  · unfold SrtD
    rw [List.pairwise_map]
    exact srt_diff ha hb
  · rw [mem_diff hb ha, List.mem_map]
    constructor
    · rintro ⟨h1, h2⟩
      exact ⟨dOf d.id (look a d.id) (look b d.id), (mem_diff ha hb).2 ⟨fun e => h1 e.symm, rfl⟩, h2.symm⟩
    · rintro ⟨x, hx, rfl⟩
      obtain ⟨h1, h2⟩ := (mem_diff ha hb).1 hx
      refine ⟨fun e => h1 e.symm, ?_⟩
      show turnD x = dOf x.id (look b x.id) (look a x.id)
      conv => lhs; rw [h2]
      rfl
theorem diff_nil {a b : List Ob} (ha : Srt a) (hb : Srt b) : diffG a b = [] ↔ a = b := by
  constructor
  · intro h
    exact look_ext ha hb fun id => not_diff ha hb fun d hd => by rw [h] at hd; cases hd
  · rintro rfl
    rw [List.eq_nil_iff_forall_not_mem]
    intro d hd
    exact ((mem_diff ha ha).1 hd).1 rfl
/-- the choice of differences -/
structure Split (l f s : List Dl) : Prop where
  fs : f.Sublist l
  ss : s.Sublist l
  all : ∀ d ∈ l, d ∈ f ∨ d ∈ s
  one : ∀ d ∈ f, ∀ e ∈ s, d.id ≠ e.id
theorem Split.symm {l f s : List Dl} (h : Split l f s) : Split l s f := ⟨h.ss, h.fs, fun d hd => (h.all d hd).symm, fun d hd e he k => h.one e he d hd k.symm⟩
theorem patch_split {a b : List Ob} {f s : List Dl} (ha : validM a = true) (hb : validM b = true) (h : Split (diffG a b) f s) (hl : 3 * (a.length + b.length) ≤ 1000000) :
    ∃ x, patchF a f = (x, 0) ∧ validM x = true ∧ x.length ≤ a.length + (a.length + b.length) ∧ patchF x s = (b, 0) ∧ patchF x f = (if f = [] then (x, 0) else ([], 12)) := by
  obtain ⟨a1, a2, a3⟩ := validM_iff.1 ha
  obtain ⟨b1, b2, b3⟩ := validM_iff.1 hb
  have hln : (diffG a b).length ≤ a.length + b.length := by
    unfold diffG
    exact Nat.le_trans (List.length_filter_le _ _) (pairs_len _ _ _)
  have lf := h.fs.length_le
  have ls := h.ss.length_le
  have df := sub_deltas ha hb h.fs
  have ds := sub_deltas ha hb h.ss
  have sf : SrtD f := List.Pairwise.sublist h.fs (srt_diff a1 b1)
  have ssd : SrtD s := List.Pairwise.sublist h.ss (srt_diff a1 b1)
  obtain ⟨x, h1, h2, h3, h4⟩ := patch_fits ha df (fun d hd => diff_old a1 b1 (h.fs.subset hd)) (by omega)
  have x1 := (validM_iff.1 h2).1
  have fit : Fits x s := fun d hd => by
    rw [h3, after_not (fun e he => h.one e he d hd)]
    exact diff_old a1 b1 (h.ss.subset hd)
  obtain ⟨y, h5, h6, h7, -⟩ := patch_fits h2 ds fit (by omega)
  refine ⟨x, h1, h2, by omega, ?_, ?_⟩
  · rw [h5]
    refine congrArg (·, 0) (look_ext (validM_iff.1 h6).1 b1 fun id => ?_)
    rw [h7]
    rcases Classical.em (∃ d ∈ diffG a b, d.id = id) with ⟨d, hd, rfl⟩ | hn
    · rw [diff_new a1 b1 hd]
      rcases h.all d hd with hf | hs
      · rw [after_not (fun e he => fun k => h.one d hf e he k.symm), h3, after_mem sf hf]
      · rw [after_mem ssd hs]
    · have hn' : ∀ d ∈ diffG a b, d.id ≠ id := fun d hd e => hn ⟨d, hd, e⟩
      rw [after_not (fun e he => hn' e (h.ss.subset he)), h3, after_not (fun e he => hn' e (h.fs.subset he))]
      exact not_diff a1 b1 hn'
  · split
    · rename_i e
      subst e
      unfold patchF
      rw [h2]; simp [deltasFrom, patchGo]
    · rename_i e
      refine patch_misfits h2 df fun hf => ?_
      obtain ⟨d, hd⟩ := List.exists_mem_of_ne_nil _ e
      have k1 := hf d hd
      have hm := h.fs.subset hd
      rw [h3, after_mem sf hd, ← diff_new a1 b1 hm, ← diff_old a1 b1 hm] at k1
      exact ((mem_diff a1 b1).1 hm).1 k1.symm
end Go.Proofs.YtlejeelmlclnkaaGreatDoor.At
