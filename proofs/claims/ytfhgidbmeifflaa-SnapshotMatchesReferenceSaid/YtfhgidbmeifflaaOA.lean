/- PLAIN: what SnapshotForgets says. -/
import Derived.Test.YtfhgidbmeifflaaNZ
set_option linter.unusedSimpArgs false
set_option linter.unusedVariables false
namespace Go.Proofs.Ytfhgidbmeifflaa
open Go.RowKit Go.Maps Go.ChangeMaps Go.MapKept Go.WideShapes Go.WideMaps

theorem readF_none {s : Sh} {r : Nat} (h : s.rd r = none) (t : Tx) : readF s r t = ([], 20) := by unfold readF; rw [h]
theorem forget_code (s : Sh) (t : Tx) : (forgetF s t).2 = 0 ∨ (forgetF s t).2 = 11 := by
  unfold forgetF; split
  · exact .inl rfl
  · exact .inr rfl
theorem forgetF_ok {s : Sh} {t : Tx} (h : (forgetF s t).2 = 0) : forgetF s t = ({ s with clk := s.clk + 1, keys := setK s.keys t ((s.keys t).map Sn.fgt ++ [⟨s.clk + 1, [], true, false⟩]) }, 0) := by
  unfold forgetF at h ⊢
  split
  · rfl
  · rename_i h1; rw [if_neg h1] at h; cases h
theorem forgetF_rd (s : Sh) (t : Tx) : (forgetF s t).1.rd = s.rd ∧ (forgetF s t).1.opn = s.opn := by unfold forgetF; split <;> exact ⟨rfl, rfl⟩
theorem forgetF_other (s : Sh) {t u : Tx} (h : u ≠ t) (r : Nat) : readF (forgetF s t).1 r u = readF s r u := by
  unfold readF
  rw [(forgetF_rd s t).1]
  have : (forgetF s t).1.keys u = s.keys u := by
    unfold forgetF
    split
    · exact setK_ne _ _ h
    · rfl
  rw [this]
theorem openF_keys (s : Sh) : (openF s).1.keys = s.keys ∧ (openF s).1.clk = s.clk := by unfold openF; split <;> exact ⟨rfl, rfl⟩
theorem openF_old {s : Sh} {r : Nat} (h : r ≤ s.opn) : (openF s).1.rd r = s.rd r := by
  unfold openF
  split
  · rfl
  · show setN s.rd (s.opn + 1) (some s.clk) r = s.rd r
    unfold setN; rw [if_neg (by omega)]
theorem openF_read {s : Sh} {r : Nat} (h : r ≤ s.opn) (t : Tx) : readF (openF s).1 r t = readF s r t := by
  unfold readF; rw [openF_old h, (openF_keys s).1]
theorem writeF_rd (s : Sh) (ps : List (Tx × Tx)) (d : List Tx) : (writeF s ps d).1.rd = s.rd ∧ (writeF s ps d).1.opn = s.opn := by
  by_cases he : (writeF s ps d).2.2 = 0
  · rw [(writeF_ok he).2.2]; exact ⟨rfl, rfl⟩
  · rw [writeF_err he]; exact ⟨rfl, rfl⟩
theorem writeF_read {s : Sh} {k : Nat} (h : Inv s k) (ps : List (Tx × Tx)) (d : List Tx) (r : Nat) (t : Tx) : readF (writeF s ps d).1 r t = readF s r t := by
  by_cases he : (writeF s ps d).2.2 = 0
  · obtain ⟨h1, h2, h3⟩ := writeF_ok he
    rw [h3]
    unfold readF
    show (match s.rd r with | none => _ | some c => _) = _
    cases hr : s.rd r with
    | none => rfl
    | some c =>
      have hc := (h.rdc r c hr).1
      show Sn.rdv (Sn.cur (putK _ _ _ _ t) c) = Sn.rdv (Sn.cur (s.keys t) c)
      rcases write_key s ps d h1 t with e | ⟨v, e1, e⟩
      · rw [e]
      · rw [e, Sn.cur_snoc_new (by omega)]
  · rw [writeF_err he]
theorem writeF_one {s : Sh} {k v : Tx} (hk : k.length ≤ 200) (hv : v.length ≤ 20000) : (writeF s [(k, v)] []).2.2 = 0 ∧ (writeF s [(k, v)] []).1.clk = s.clk + 1 ∧ (writeF s [(k, v)] []).1.keys k = s.keys k ++ [⟨s.clk + 1, v, false, false⟩] ∧ (writeF s [(k, v)] []).1.rd = s.rd := by
  have e : writeF s [(k, v)] [] = ({ s with ver := s.ver + 1, clk := s.clk + 1, keys := putK (s.clk + 1) (dropK (s.clk + 1) s.keys []) [(k, v)] ([(k, v)].map (·.1)), lim := s.lim + 1 }, s.ver + 1, 0) := by
    unfold writeF
    rw [if_neg (by simp), if_neg (by simp [longD, longP, longQ]; omega)]
    rfl
  rw [e]
  refine ⟨rfl, rfl, ?_, rfl⟩
  show putK _ _ _ _ k = _
  rw [dropK_nil]
  simp [putK, getP]
theorem fgt_read (v : Sn.Val) : (Sn.rdv (some (Sn.fgt v))).2 ≠ 0 := by
  have hg := Sn.fgt_gone v
  unfold Sn.rdv
  dsimp only
  rw [hg]
  cases (Sn.fgt v).forgot <;> simp
/-- of a key that has been forgotten: nobody reads it -/
theorem forget_reads {s : Sh} {k : Nat} (h : Inv s k) {t : Tx} (he : (forgetF s t).2 = 0) (r : Nat) : (readF (forgetF s t).1 r t).2 ≠ 0 := by
  rw [forgetF_ok he]
  unfold readF
  show (match s.rd r with | none => _ | some c => _ : List UInt8 × Nat).2 ≠ 0
  cases hr : s.rd r with
  | none => simp
  | some c =>
    have hc := (h.rdc r c hr).1
    show (Sn.rdv (Sn.cur (setK s.keys t _ t) c)).2 ≠ 0
    rw [setK_self, Sn.cur_snoc_new (by show c < s.clk + 1; omega), Sn.cur_map Sn.fgt_since]
    cases Sn.cur (s.keys t) c with
    | none => simp [Sn.rdv]
    | some v => exact fgt_read v
/-- one that is opened then gets ErrNone -/
theorem forget_fresh {s : Sh} {t : Tx} (he : (forgetF s t).2 = 0) (ho : (openF (forgetF s t).1).2.2 = 0) : (readF (openF (forgetF s t).1).1 (openF (forgetF s t).1).2.1 t).2 = 11 := by
  rw [readF_some (openF_rd ho), (openF_keys _).1, forgetF_ok he]
  show (Sn.rdv (Sn.cur (setK s.keys t _ t) (s.clk + 1))).2 = 11
  rw [setK_self, Sn.cur_snoc_old (by exact Nat.le_refl _)]
  rfl
/-- a value that has just been written is read by one that is opened then -/
theorem write_fresh {s : Sh} {k v : Tx} (hk : k.length ≤ 200) (hv : v.length ≤ 20000) (ho : (openF (writeF s [(k, v)] []).1).2.2 = 0) :
    readF (openF (writeF s [(k, v)] []).1).1 (openF (writeF s [(k, v)] []).1).2.1 k = (v, 0) := by
  obtain ⟨h1, h2, h3, h4⟩ := writeF_one (s := s) hk hv
  rw [readF_some (openF_rd ho), (openF_keys _).1, h3, h2, Sn.cur_snoc_old (by exact Nat.le_refl _)]
  rfl
theorem R2.butz {w w' : World} {B n z : Nat} {a b : Value} {X Y : List Value} {F : Nat → Prop} (h : R2 w B a b n X Y) (ha : ∀ g, a.ownBlock = some g → g < z) (hb' : ∀ g, b.ownBlock = some g → g < z) (hb : But F w w') (hF : ∀ g, F g → g < B ∨ z ≤ g) : R2 w' B a b n X Y := by
  have k : ∀ {e : TypeId} {v : Value} {Z : List Value}, (∀ g, v.ownBlock = some g → g < z) → w.ownsRow B e 1 v n Z → w'.ownsRow B e 1 v n Z := fun {e v Z} hv ho => by
    obtain ⟨h1, h2⟩ := ho
    refine ⟨h1, ?_⟩
    rcases h2 with h2 | ⟨g, cap, cur, e1, e2, e3, rest⟩
    · exact .inl h2
    · have hlt := lt_of_block e3
      have hgz := hv g (by rw [e1]; rfl)
      exact .inr ⟨g, cap, cur, e1, e2, (hb.block g hlt (fun hx => by rcases hF g hx with h4 | h4 <;> omega)).trans e3, rest⟩
  exact ⟨k ha h.oa, k hb' h.ob, h.ab⟩
theorem ShPost.cond {u w' : World} {p : Nat} {F P : Nat → Prop} {s : Sh} (h : ShPost u p F s w') (hF : ∀ g, F g → P g) (hP : ∀ g, u.heap.size ≤ g → P g) : ∃ F', ShAt w' p F' s ∧ (∀ g, F' g → P g) ∧ But P u w' := by
  obtain ⟨F', h1, h2, h3⟩ := h
  exact ⟨F', h1, fun g hg => (h2 g hg).elim (hF g) (hP g), ⟨h3.os, h3.tape, h3.output, h3.size, fun k hk hx => h3.block k hk (fun e => hx (hF k e))⟩⟩
end Go.Proofs.Ytfhgidbmeifflaa
