/- WORDS FOR SnapshotCollects: the list of keys beside a shelf, lists of all readings, a set of keys as a map. -/
import Derived.Test.YtfhgidbmeifflaaOE
set_option linter.unusedSimpArgs false
set_option linter.unusedVariables false
namespace Go.Proofs.Ytfhgidbmeifflaa
open Go.RowKit Go.Maps Go.ChangeMaps Go.MapKept Go.WideShapes Go.WideMaps

def kv (K : List Tx) : List Value := K.map fun t => .string (mkB t)
theorem kv_app (a b : List Tx) : kv (a ++ b) = kv a ++ kv b := by unfold kv; rw [List.map_append]
theorem kv_get {K : List Tx} {i : Nat} (h : i < K.length) : (kv K)[i]? = some (.string (mkB K[i])) := by unfold kv; rw [List.getElem?_map, List.getElem?_eq_getElem h]; rfl
theorem own_but {w w' : World} {B n : Nat} {e : TypeId} {v : Value} {X : List Value} {F : Nat → Prop} (h : w.ownsRow B e 1 v n X) (hb : But F w w') (hF : ∀ g, v.ownBlock = some g → ¬ F g) : w'.ownsRow B e 1 v n X := by
  obtain ⟨h1, h2⟩ := h
  refine ⟨h1, ?_⟩
  rcases h2 with h2 | ⟨g, cap, cur, e1, e2, e3, rest⟩
  · exact .inl h2
  · exact .inr ⟨g, cap, cur, e1, e2, (hb.block g (lt_of_block e3) (hF g (by rw [e1]; rfl))).trans e3, rest⟩
theorem own_bel {w w' : World} {B n : Nat} {e : TypeId} {v : Value} {X : List Value} (h : w.ownsRow B e 1 v n X) (hb : Below w.heap.size w w') : w'.ownsRow B e 1 v n X := own_but (F := fun _ => False) h (But.of_below hb) (fun _ _ h => h)
/-- a shelf, and the list of the keys that it may have -/
structure KeyI (B : Nat) (wr : World) (p : Nat) (S : Sh) (F : Nat → Prop) (v : Value) (K : List Tx) : Prop where
  sf : ShAt wr p F S
  bf : ∀ g, F g → B ≤ g
  kr : wr.ownsRow B 9 1 v K.length (kv K)
  ds : ∀ g, v.ownBlock = some g → ¬ F g
theorem ShAt.lt {w : World} {p : Nat} {F : Nat → Prop} {s : Sh} (h : ShAt w p F s) : ∀ g, F g → g < w.heap.size := by obtain ⟨bm, br, nk, hd, hh⟩ := h; exact hh.lt
theorem KeyI.step {B : Nat} {wr w' : World} {p : Nat} {S S' : Sh} {F : Nat → Prop} {v : Value} {K : List Tx} (h : KeyI B wr p S F v K) (sp : ShPost wr p F S' w') (hB : B ≤ wr.heap.size) : ∃ F', KeyI B w' p S' F' v K ∧ Below B wr w' := by
  obtain ⟨F', h1, h2, h3⟩ := sp
  exact ⟨F', ⟨h1, fun g hg => (h2 g hg).elim (h.bf g) (fun e => Nat.le_trans hB e), own_but h.kr h3 h.ds, fun g hg hf => (h2 g hf).elim (h.ds g hg) (fun e => by have := (h.kr.lt g hg).2; omega)⟩, h3.below hB h.bf⟩
theorem KeyI.grow {B : Nat} {wr w' : World} {p : Nat} {S : Sh} {F : Nat → Prop} {v v' : Value} {K K' : List Tx} (h : KeyI B wr p S F v K) (ho : w'.ownsRow B 9 1 v' K'.length (kv K')) (hg : wr.grownBy w' v.ownBlock) (hl : ∀ g, v'.ownBlock = some g → v.ownBlock = some g ∨ wr.heap.size ≤ g) : KeyI B w' p S F v' K' := by
  refine ⟨?_, h.bf, ho, fun g hg' hf => ?_⟩
  · obtain ⟨bm, br, nk, hd, hh⟩ := h.sf
    exact ⟨bm, br, nk, hd, hh.keep hg.size (fun g hf => hg.block g (hh.lt g hf) (fun e => h.ds g e.symm hf))⟩
  · rcases hl g hg' with h1 | h1
    · exact h.ds g h1 hf
    · have := h.sf.lt g hf; omega
/-- append of two cells that have just been laid in a block of their own, in a region that draws its order -/
theorem step_app2v {P : Program} {ops : Array Oper} {o : Oper} {a : Act} {K : Act → World → Prop} {Q : Exit → Act → World → Prop} {E : Prop} (hgd : o.guard = none) (s x : Operand) (t : TypeId)
    (ho : o.op = .call { callee := .builtin .append, args := #[s, x], argTypes := #[t, t] }) {e : TypeId} {z : Value} {bytes : Nat}
    (ht : P.underlying t = some (.slice e)) (hinfo : (P.info? e).map (fun i => (i.zero, i.size, i.bytes)) = some (some z, 1, bytes)) (hzs : z.cells.size = 1)
    (base : Nat) (v : Value) (n : Nat) (xs : List Value) (w0 : World) (cs : Array Value) (hcs : cs.size = 2) (h1 : ∀ u ∈ cs.toList, u.oneCell' = true)
    (hs : a.eval s = v) {g : Nat} (hx : a.eval x = .slice (some ⟨g, 0, none⟩) 2 2) (hg : w0.heap.size = g) (hown : w0.ownsRow base e 1 v n xs) (hb : base ≤ w0.heap.size)
    (hbytes : (n + 2) * bytes ≤ 140737488355328) (hmax : n + 2 ≤ 9223372036854775807)
    (h : ∀ g' c w', w'.ownsRow base e 1 (.slice (some ⟨g', 0, none⟩) (n + 2) c) (n + 2) (xs ++ cs.toList) → w0.grownBy w' v.ownBlock → (v.ownBlock = some g' ∨ w0.heap.size ≤ g') → K (a.put o.dst (.slice (some ⟨g', 0, none⟩) (n + 2) c)) w') :
    if Region.wanted o (yielded ops a.tmps) = true then Oper.wp P o a (w0.alloc (.cells cs e)) K Q else E := by
  subst hg
  obtain ⟨i, hi, hz, hsi, hby⟩ := info_parts hinfo
  refine step_append_lies (w0.alloc (.cells cs e)) hgd s x t ho base e i z 1 bytes ht hi hz hsi hby hzs (by omega) v n xs hs (hown.alloc _) ⟨w0.heap.size, 0, none⟩ 2 2 cs.toList hx (by simpa using hcs)
    (World.news_of_block (cs := cs) (t := e) (fr := (0, 0)) (heap_alloc_new w0 _)) h1 (by omega) (by simpa [maxLen] using hmax) hbytes (by simp; omega) _ rfl ?_
  intro g cap w' hown' hg hgo _
  exact h _ _ w' hown' ⟨hg.os, hg.tape, hg.output, Nat.le_trans (by simp) hg.size, fun k hk hne => (hg.block k (by simp; omega) hne).trans (alloc_old _ _ hk)⟩ (hgo.imp id (fun e => by rw [e]; simp))
/-- the first m of all readings, reader by reader -/
def fl (K : List Tx) (f : Nat → Tx → Value) (m : Nat) : List Value := (List.range m).map fun t => f (t / K.length) (K.getD (t % K.length) [])
theorem fl_len (K : List Tx) (f : Nat → Tx → Value) (m : Nat) : (fl K f m).length = m := by simp [fl]
theorem fl_at (K : List Tx) {r i : Nat} (hi : i < K.length) : (r * K.length + i) / K.length = r ∧ (r * K.length + i) % K.length = i := by
  have hp : 0 < K.length := by omega
  constructor
  · rw [Nat.mul_comm, Nat.mul_add_div hp, Nat.div_eq_of_lt hi, Nat.add_zero]
  · rw [Nat.mul_comm, Nat.mul_add_mod, Nat.mod_eq_of_lt hi]
theorem fl_succ (K : List Tx) (f : Nat → Tx → Value) {r i : Nat} (hi : i < K.length) : fl K f (r * K.length + i + 1) = fl K f (r * K.length + i) ++ [f r K[i]] := by
  unfold fl
  rw [List.range_succ, List.map_append]
  congr 1
  obtain ⟨h1, h2⟩ := fl_at K (r := r) hi
  simp only [List.map_cons, List.map_nil]
  rw [h1, h2, List.getD_eq_getElem?_getD, List.getElem?_eq_getElem hi]
  rfl
theorem fl_get (K : List Tx) (f : Nat → Tx → Value) {r i m : Nat} (hi : i < K.length) (hm : r * K.length + i < m) : (fl K f m)[r * K.length + i]? = some (f r K[i]) := by
  unfold fl
  rw [List.getElem?_map, List.getElem?_range hm]
  obtain ⟨h1, h2⟩ := fl_at K (r := r) hi
  show some (f ((r * K.length + i) / K.length) (K.getD ((r * K.length + i) % K.length) [])) = _
  rw [h1, h2, List.getD_eq_getElem?_getD, List.getElem?_eq_getElem hi]
  rfl
/-- a set of texts as a map's function -/
def boolS (D : List Tx) : Lit → Option Value
  | .string t => if t ∈ D then some (.bool true) else none
  | _ => none
theorem boolS_none : (fun _ => none) = boolS [] := by
  funext kl
  cases kl <;> rfl
theorem boolS_upd (D : List Tx) (t : Tx) : updM (boolS D) (.string t) (.bool true) = boolS (if t ∈ D then D else t :: D) := by
  funext kl
  unfold updM
  by_cases e : kl = .string t
  · subst e
    rw [if_pos (by simp [Lit.sameKey])]
    show some (Value.bool true) = if t ∈ (if t ∈ D then D else t :: D) then _ else _
    rw [if_pos]
    split
    · assumption
    · simp
  · rw [if_neg (by rw [Maps.sameKey_ne e]; simp)]
    cases kl with
    | string u =>
      have : u ≠ t := fun h => e (by rw [h])
      show (if u ∈ D then some (Value.bool true) else none) = if u ∈ (if t ∈ D then D else t :: D) then _ else _
      by_cases hu : u ∈ D
      · rw [if_pos hu, if_pos]
        split
        · exact hu
        · exact List.mem_cons_of_mem _ hu
      · rw [if_neg hu, if_neg]
        split
        · exact hu
        · simp [this, hu]
    | _ => rfl
/-- the keys that have been seen to be read -/
structure SetI (w : World) (bt : Nat) (D : List Tx) : Prop where
  m : MapAt w Try.prog 9 bt (boolS D) D.length
  nd : D.Nodup
theorem SetI.put {w : World} {bt : Nat} {D : List Tx} (h : SetI w bt D) {t : Tx} (ht : t.length ≤ 1000000) (hn : D.length ≤ 1000000) :
    ∃ w', (Instr.mapUpdate 43 (.map (some bt)) (.string (mkB t)) (.bool true)).run Try.prog w = .ok () w' ∧ SetI w' bt (if t ∈ D then D else t :: D) ∧ w.grownBy w' (some bt) := by
  obtain ⟨w', hrun, hm, hg⟩ := h.m.upd strK Try.underlying43 (by unfold maxLen; omega) (key_of t ht) (.bool true)
  rw [boolS_upd] at hm
  refine ⟨w', hrun, ?_, hg⟩
  have e : D.length + (if (boolS D (.string t)).isSome then 0 else 1) = (if t ∈ D then D else t :: D).length := by
    show D.length + (if (if t ∈ D then some (Value.bool true) else none).isSome then 0 else 1) = _
    by_cases hd : t ∈ D <;> simp [hd]
  rw [e] at hm
  refine ⟨hm, ?_⟩
  split
  · exact h.nd
  · rename_i hd; exact List.nodup_cons.2 ⟨hd, h.nd⟩
end Go.Proofs.Ytfhgidbmeifflaa
