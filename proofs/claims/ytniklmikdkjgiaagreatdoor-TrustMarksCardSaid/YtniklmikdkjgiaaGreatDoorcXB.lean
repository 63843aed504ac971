import Derived.Test.YtniklmikdkjgiaaGreatDoorProg
import Derived.Test.YtniklmikdkjgiaaGreatDoorWD
import Derived.Below
import Derived.Laws.OwnMore
import Derived.Deep.AppendLies
import Derived.Deep.Draws
import Derived.Maps.AppendAt
import Derived.RegionTactic
import Derived.OwnWalk
import Derived.Lib.Hide
import Derived.OneCell
import Derived.Laws.Strings
import Derived.Laws.MakeOwn
import Derived.Deep.QuietTactic
import Derived.WalkKit
import Derived.Maps.RangeWalk
import Derived.Maps.StringElems
import Derived.Maps.OwnSet
import Derived.RangeFuncNested
import Derived.RangeFuncBound
import Derived.RangeFuncCalls
import Derived.RangeFuncLeaves
import Derived.Deep.RegionHeld3
import Derived.OrdersIn
import Derived.RangeFuncBox
import Derived.Deep.DrawnRows
import Derived.TacticsIn
import Derived.TacticsInMore
import Derived.OwnWalkIn
import Derived.LoopNIn
import Derived.LoopIn
set_option linter.all false
set_option maxHeartbeats 16000000
set_option maxRecDepth 100000
namespace Go.Proofs.YtniklmikdkjgiaaGreatDoor
open Go.RowKit
def Rd (w : World) (A : Option Addr) (xs : List Value) : Prop :=
  0 < xs.length → ∃ b off, A = some ⟨b, off, none⟩ ∧ b < w.heap.size ∧ ∀ i u, xs[i]? = some u → w.cell? ⟨b, off + i, none⟩ = some u
theorem Rd.nil_ (w : World) (A : Option Addr) : Rd w A [] := fun h => absurd h (by simp)
theorem Rd.at_ {w : World} {A : Option Addr} {xs : List Value} (h : Rd w A xs) {k : Nat} (hk : k < xs.length) :
    ∃ b off, A = some ⟨b, off, none⟩ ∧ b < w.heap.size ∧ w.cell? ⟨b, off + k, none⟩ = some xs[k] := by
  obtain ⟨b, off, e, hb, hc⟩ := h (by omega)
  exact ⟨b, off, e, hb, hc k _ (List.getElem?_eq_getElem hk)⟩
theorem Rd.map_at {α : Type} {f : α → Value} {w : World} {A : Option Addr} {l : List α} (h : Rd w A (l.map f)) {k : Nat} (hk : k < l.length) :
    ∃ b off, A = some ⟨b, off, none⟩ ∧ b < w.heap.size ∧ w.cell? ⟨b, off + k, none⟩ = some (f l[k]) := by
  obtain ⟨b, off, e, hb, hc⟩ := h (by simpa using Nat.lt_of_le_of_lt (Nat.zero_le _) hk)
  exact ⟨b, off, e, hb, hc k _ (by simp [hk])⟩
theorem cell_same {w w' : World} {p : Addr} (h : w'.heap[p.block]? = w.heap[p.block]?) : w'.cell? p = w.cell? p := World.cell?_of_block (w := w) h
theorem Rd.keep {w w' : World} {A : Option Addr} {xs : List Value} (h : Rd w A xs) (hs : w.heap.size ≤ w'.heap.size) (hk : ∀ k, k < w.heap.size → w'.heap[k]? = w.heap[k]?) : Rd w' A xs := by
  intro hn
  obtain ⟨b, off, e, hb, hc⟩ := h hn
  exact ⟨b, off, e, by omega, fun i u hu => (cell_same (p := ⟨b, off + i, none⟩) (hk b hb)).trans (hc i u hu)⟩
theorem Rd.below {w w' : World} {A : Option Addr} {xs : List Value} (h : Rd w A xs) (hb : Below w.heap.size w w') : Rd w' A xs := h.keep hb.size hb.block
theorem Rd.drewN {w : World} {A : Option Addr} {xs : List Value} (h : Rd w A xs) (n : Nat) : Rd (w.drewN n) A xs := h
theorem Rd.alloc {w : World} {A : Option Addr} {xs : List Value} (h : Rd w A xs) (o : Obj) : Rd (w.alloc o) A xs := h.below ((Below.refl _ _).alloc (Nat.le_refl _) o)
theorem Rd.of_row {w : World} {g : Nat} {e : TypeId} {cur : Array Value} (h : w.heap[g]? = some (.cells cur e (0, 0))) {xs : List Value} (hx : xs <+: cur.toList) : Rd w (some ⟨g, 0, none⟩) xs := by
  intro _
  refine ⟨g, 0, rfl, ?_, fun i u hu => ?_⟩
  · rcases Nat.lt_or_ge g w.heap.size with h' | h'
    · exact h'
    · rw [Array.getElem?_eq_none h'] at h; cases h
  · obtain ⟨t, ht⟩ := hx
    have hi := (List.getElem?_eq_some_iff.1 hu).1
    rw [cell_of_row w g (0 + i) cur e (0, 0) h, Nat.zero_add, ← Array.getElem?_toList, ← ht, List.getElem?_append_left hi, hu]
theorem Rd.pre {w : World} {A : Option Addr} {xs : List Value} (h : Rd w A xs) (k : Nat) : Rd w A (xs.take k) := by
  intro hn
  obtain ⟨b, off, e, hb, hc⟩ := h (by simp at hn; omega)
  refine ⟨b, off, e, hb, fun i u hu => hc i u ?_⟩
  rw [List.getElem?_take] at hu
  split at hu
  · exact hu
  · cases hu
theorem mk_run {P : Program} {t e : TypeId} {z : Value} {size bytes : Nat} (ht : P.underlying t = some (.slice e)) (hinfo : (P.info? e).map (fun i => (i.zero, i.size, i.bytes)) = some (some z, size, bytes))
    (n : Nat) (h1 : bytes * n ≤ 281474976710656) (h2 : n ≤ 9223372036854775807) (u : World) :
    (Instr.makeSlice t (.int .i64 (n : Int)) (.int .i64 (n : Int))).run P u = .ok (.slice (some ⟨u.heap.size, 0, none⟩) n n) (u.alloc (.cells (madeCells z.cells (n * size)) e)) := by
  obtain ⟨i, hi, hz, hs, hb⟩ := info_parts hinfo
  have h := run_make (P := P) u t e i z ht hi hz .i64 .i64 (n : Int) (n : Int) (by omega) (Int.le_refl _) (by rw [hb]; exact Int.ofNat_le.2 h1) (by omega)
  rw [hs] at h
  simpa using h
theorem own_base {w : World} {base base' : Nat} {e : TypeId} {size n : Nat} {v : Value} {xs : List Value} (h : w.ownsRow base e size v n xs) (hb : base' ≤ base) : w.ownsRow base' e size v n xs := by
  refine ⟨h.1, ?_⟩
  rcases h.2 with h2 | ⟨g, cap, cur, h1, h2, h3⟩
  · exact .inl h2
  · exact .inr ⟨g, cap, cur, h1, by omega, h3⟩
theorem own_below {w w' : World} {base B : Nat} {e : TypeId} {size n : Nat} {v : Value} {xs : List Value} (h : w.ownsRow base e size v n xs) (hb : Below B w w') (hB : w.heap.size ≤ B) : w'.ownsRow base e size v n xs := by
  refine ⟨h.1, ?_⟩
  rcases h.2 with h2 | ⟨g, cap, cur, h1, h2, h3, h4⟩
  · exact .inl h2
  · exact .inr ⟨g, cap, cur, h1, h2, (hb.block g (by have := lt_of_block h3; omega)).trans h3, h4⟩
theorem grown_below {w w' : World} {base : Nat} {v : Value} (hg : w.grownBy w' v.ownBlock) (hv : ∀ k, v.ownBlock = some k → base ≤ k) (hb : base ≤ w.heap.size) : Below base w w' :=
  (Below.refl _ _).grown hg hb hv
theorem wpList_app1G {P : Program} {ops : Array Oper} {rest : List Oper} {o : Oper} {a : Act} {Q : Exit → Act → World → Prop} (hgd : o.guard = none) (s x : Operand) (t : TypeId)
    (ho : o.op = .call { callee := .builtin .append, args := #[s, x], argTypes := #[t, t] }) {e : TypeId} {z : Value} {size bytes : Nat}
    (ht : P.underlying t = some (.slice e)) (hinfo : (P.info? e).map (fun i => (i.zero, i.size, i.bytes)) = some (some z, size, bytes)) (hzs : z.cells.size = size) (hsz : 0 < size)
    (base : Nat) (v : Value) (n : Nat) (xs : List Value) (w0 : World) (cs : Array Value) (hcs : cs.size = size) (h1 : ∀ u ∈ cs.toList, u.oneCell' = true)
    (hs : a.eval s = v) {g : Nat} (hx : a.eval x = .slice (some ⟨g, 0, none⟩) 1 1) (hg : w0.heap.size = g) (hown : w0.ownsRow base e size v n xs) (hb : base ≤ w0.heap.size)
    (hbytes : (n + 1) * bytes ≤ 140737488355328) (hmax : n + 1 ≤ 9223372036854775807)
    (h : ∀ v' w', w'.ownsRow base e size v' (n + 1) (xs ++ cs.toList) → Below base w0 w' → (w0.alloc (.cells cs e)).grownBy w' v.ownBlock → wpList P ops Q rest (a.put o.dst v') w') :
    wpList P ops Q (o :: rest) a (w0.alloc (.cells cs e)) := by
  subst hg
  obtain ⟨i, hi, hz, hsi, hby⟩ := info_parts hinfo
  refine wpList_append_own _ hgd s x t ho base e i z size bytes ht hi hz hsi hby hzs hsz v n xs hs (hown.alloc _) ⟨w0.heap.size, 0, none⟩ 1 1 cs.toList hx (by simpa using hcs)
    (World.news_of_block (cs := cs) (t := e) (fr := (0, 0)) (heap_alloc_new w0 _)) h1 (by simpa [maxLen] using hmax) hbytes (by simp; omega) ?_
  intro v' w' hown' hg _
  exact h v' w' hown' (((Below.refl base w0).alloc hb _).trans (grown_below hg (fun k hk => (hown.lt k hk).1) (by simp; omega))) hg
theorem run_append_none_ {P : Program} (w : World) {base : Nat} {t ty e : TypeId} {i : TypeInfo} {size : Nat} (ht : P.underlying t = some (.slice e)) (hi : P.info? e = some i)
    {v : Value} {n : Nat} {xs : List Value} (hown : w.ownsRow base e size v n xs) (c : Nat) : (Builtin.append_ #[t, t] ty #[v, .slice none 0 c]).run P w = .ok v w := by
  rcases hown.2 with ⟨rfl, rfl⟩ | ⟨g, cap, cur, rfl, _, _, hnc, _⟩
  · simp [Builtin.append_, run_underlying ht, sizeOf, typeInfo, hi, Builtin.lenOf, Builtin.firstCells]
  · simp [Builtin.append_, run_underlying ht, sizeOf, typeInfo, hi, Builtin.lenOf, Builtin.firstCells, hnc, storeCells]
theorem blk_keep {w w' : World} {base g size n : Nat} {e t : TypeId} {v : Value} {xs : List Value} {cs : Array Value} {fr : Nat × Nat} (hg : w.grownBy w' v.ownBlock) (ho : w.ownsRow base e size v n xs) (hb : w.heap[g]? = some (.cells cs t fr)) (hne : e ≠ t) : w'.heap[g]? = some (.cells cs t fr) := by
  refine (hg.block g (lt_of_block hb) ?_).trans hb
  rcases ho.2 with ⟨rfl, _⟩ | ⟨g', cap, cur, rfl, _, hh, _⟩
  · simp [Value.ownBlock]
  · intro e1
    have : g' = g := by simpa [Value.ownBlock] using e1.symm
    subst this
    rw [hh] at hb
    injection hb with hb
    injection hb with _ h2
    exact hne h2
def Dr (w w' : World) : Prop := ∃ n, w' = w.drewN n
theorem dr2 {w : World} {n m : Nat} : Dr w ((w.drewN n).drewN m) := ⟨n + m, by simp [World.drewN, Nat.add_assoc]⟩
theorem Dr.more {w w' : World} (h : Dr w w') {m : Nat} : Dr w (w'.drewN m) := by obtain ⟨n, rfl⟩ := h; exact dr2
theorem Dr.trans {a b c : World} (h : Dr a b) (k : Dr b c) : Dr a c := by obtain ⟨n, rfl⟩ := k; exact h.more
theorem Dr.below {w w' : World} (h : Dr w w') (B : Nat) : Below B w w' := by obtain ⟨n, rfl⟩ := h; exact ⟨rfl, rfl, rfl, Nat.le_refl _, fun _ _ => rfl⟩
theorem below_drewN {B : Nat} {a w : World} (h : Below B a w) (n : Nat) : Below B a (w.drewN n) := ⟨h.os, h.tape, h.output, h.size, h.block⟩
end Go.Proofs.YtniklmikdkjgiaaGreatDoor
namespace Go.Proofs.YtniklmikdkjgiaaGreatDoor
open Go.RowKit
structure But (X : Nat → Prop) (w w' : World) : Prop where
  os : w'.os = w.os
  tape : w'.tape = w.tape
  output : w'.output = w.output
  size : w.heap.size ≤ w'.heap.size
  block : ∀ k, k < w.heap.size → ¬ X k → w'.heap[k]? = w.heap[k]?
theorem But.below {X : Nat → Prop} {w w' : World} {B : Nat} (h : But X w w') (hB : B ≤ w.heap.size) (hX : ∀ k, X k → B ≤ k) : Below B w w' :=
  ⟨h.os, h.tape, h.output, h.size, fun k hk => h.block k (by omega) (fun hx => by have := hX k hx; omega)⟩
theorem But.refl (X : Nat → Prop) (w : World) : But X w w := ⟨rfl, rfl, rfl, Nat.le_refl _, fun _ _ _ => rfl⟩
theorem But.trans {X : Nat → Prop} {a b c : World} (h : But X a b) (k : But X b c) : But X a c :=
  ⟨k.os.trans h.os, k.tape.trans h.tape, k.output.trans h.output, Nat.le_trans h.size k.size, fun i hi hx => (k.block i (Nat.lt_of_lt_of_le hi h.size) hx).trans (h.block i hi hx)⟩
theorem But.of_below {X : Nat → Prop} {a b : World} (h : Below a.heap.size a b) : But X a b := ⟨h.os, h.tape, h.output, h.size, fun k hk _ => h.block k hk⟩
theorem But.set {X : Nat → Prop} {a b : World} (h : But X a b) {p : Addr} (hp : X p.block) (u : Value) : But X a (b.setCell p u) :=
  ⟨h.os, h.tape, h.output, by simpa using h.size, fun k hk hx => (Below.heap_setCell b p u k (fun e => hx (e ▸ hp))).trans (h.block k hk hx)⟩
theorem But.setN {X : Nat → Prop} {a b : World} (h : But X a b) {p : Addr} (hp : a.heap.size ≤ p.block) (u : Value) : But X a (b.setCell p u) :=
  ⟨h.os, h.tape, h.output, by simpa using h.size, fun k hk hx => (Below.heap_setCell b p u k (fun e => by omega)).trans (h.block k hk hx)⟩
theorem But.alloc {X : Nat → Prop} {a b : World} (h : But X a b) (o : Obj) : But X a (b.alloc o) := h.trans (But.of_below ((Below.refl _ _).alloc (Nat.le_refl _) o))
theorem But.drewN {X : Nat → Prop} {a b : World} (h : But X a b) (n : Nat) : But X a (b.drewN n) := ⟨h.os, h.tape, h.output, h.size, h.block⟩
theorem alloc_old (w : World) (o : Obj) {k : Nat} (h : k < w.heap.size) : (w.alloc o).heap[k]? = w.heap[k]? := ((Below.refl _ _).alloc (Nat.le_refl _) o).block k h
theorem alloc_new' (w : World) (cs : Array Value) (t : TypeId) {k : Nat} (h : k = w.heap.size) : (w.alloc (.cells cs t)).heap[k]? = some (.cells cs t (0, 0)) := by subst h; exact heap_alloc_new w _
theorem free_blk {w : World} {g : Nat} {cs : Array Value} {t : TypeId} (h : w.heap[g]? = some (.cells cs t (0, 0))) (i : Nat) : w.frozen? ⟨g, i, none⟩ = false := by simp [World.frozen?, h]
theorem But.c {X : Nat → Prop} {W0 w : World} (h : But X W0 w) {b o : Nat} {v : Value} (hx : ¬ X b) (hc : W0.cell? ⟨b, o, none⟩ = some v) : w.cell? ⟨b, o, none⟩ = some v :=
  (cell_same (p := ⟨b, o, none⟩) (h.block b (World.block_lt_of_cell? _ _ hc) hx)).trans hc
theorem But.drew {X : Nat → Prop} {a b : World} (h : But X a b) : But X a b.drew := ⟨h.os, h.tape, h.output, h.size, h.block⟩
end Go.Proofs.YtniklmikdkjgiaaGreatDoor
namespace Go.Proofs.YtniklmikdkjgiaaGreatDoor
open Go.RowKit Go.Maps Go.ChangeMaps Go.MapKept Go.WideShapes
open Go.WideElems (Fit rd rg pl rd_key rd_val rg_of other_key elemAt)
def hE (v : Value) : Option (DataW Value × List MemPlace) := some (.held v, [])
def unheld : DataW Value → Option Value
  | .held v => some v
  | _ => none
def lookM (D : DataW Value) (kl : Lit) : Option Value := if Maps.has D kl then unheld (D.atKey kl .nil) else none
def updM (M : Lit → Option Value) (kl : Lit) (v : Value) : Lit → Option Value := fun x => if x.sameKey kl then some v else M x
def delM (M : Lit → Option Value) (kl : Lit) : Lit → Option Value := fun x => if x.sameKey kl then none else M x
def MapAt (w : World) (P : Program) (k : TypeId) (b : Nat) (M : Lit → Option Value) (n : Nat) : Prop :=
  ∃ D : DataW Value, w.ownsMap P k hE b n D ∧ Maps.size D = n ∧ ∀ kl, lookM D kl = M kl
section
variable {w w' : World} {P : Program} {k : TypeId} {b n : Nat} {M : Lit → Option Value}
theorem own_size {D : DataW Value} {R : Value → Option (DataW Value × List MemPlace)} (h : w.ownsMap P k R b n D) : w.ownsMap P k R b (Maps.size D) D := by
  obtain ⟨es, clock, hb, F, hs, hD⟩ := h
  refine ⟨es, clock, hb, F, ?_, hD⟩
  rw [hD]
  simp [Maps.size, length_sorted]
theorem MapAt.lt (h : MapAt w P k b M n) : b < w.heap.size := by obtain ⟨D, h1, _⟩ := h; exact h1.lt
theorem MapAt.same (h : MapAt w P k b M n) (hb : w'.heap[b]? = w.heap[b]?) : MapAt w' P k b M n := by
  obtain ⟨D, ⟨es, clock, h0, h1⟩, h2⟩ := h; exact ⟨D, ⟨es, clock, hb.trans h0, h1⟩, h2⟩
theorem MapAt.made (w : World) (P : Program) (k : TypeId) : MapAt (w.alloc (.map #[] 0)) P k w.heap.size (fun _ => none) 0 :=
  ⟨.map [], World.ownsMap_made _ _ _ _, rfl, fun kl => by simp [lookM, Maps.has]⟩
theorem at_held {D : DataW Value} {R : DataW Value} {kl : Lit} (h : w.ownsMap P k hE b n D) (K : Keyed P k) {t e : TypeId} (ht : P.underlying t = some (.map k e)) {z : Value} (hz : (zeroValue e).run P w = .ok z w) {key : Value} (hkey : keyOf P k key = some kl) (c : Bool) :
    (Instr.lookup t (.map (some b)) key c).run P w = .ok (if c then .tuple #[(lookM D kl).getD z, .bool (lookM D kl).isSome] else (lookM D kl).getD z) w ∧ ((lookM D kl).isSome = Maps.has D kl) := by
  obtain ⟨es, clock, hb, F, _, rfl⟩ := h
  rcases Maps.fit_look c K ht hz hb F hkey with ⟨hrun, _, hat⟩ | ⟨e0, y, _, _, hrun, hRv, hat, _⟩
  · have hh := Maps.has_false_of_atKey hat
    have hl : lookM (.map ((es.toList.map (rg P k hE)).foldr DataW.insert [])) kl = none := by unfold lookM; rw [hh]; rfl
    rw [hl]
    refine ⟨?_, by rw [hh]; rfl⟩
    rw [hrun]; cases c <;> rfl
  · have hh := Maps.has_true_of_atKey hat
    have he : y = (.held e0.val, []) := by
      have := hRv
      unfold hE at this
      exact (Option.some.inj this).symm
    have hl : lookM (.map ((es.toList.map (rg P k hE)).foldr DataW.insert [])) kl = some e0.val := by
      unfold lookM; rw [hh, hat .nil, he]; rfl
    rw [hl]
    refine ⟨?_, by rw [hh]; rfl⟩
    rw [hrun]; cases c <;> rfl
theorem MapAt.look {kl : Lit} (h : MapAt w P k b M n) (K : Keyed P k) {t e : TypeId} (ht : P.underlying t = some (.map k e)) {z : Value} (hz : (zeroValue e).run P w = .ok z w) {key : Value} (hkey : keyOf P k key = some kl) :
    (Instr.lookup t (.map (some b)) key false).run P w = .ok ((M kl).getD z) w := by
  obtain ⟨D, h1, h2, h3⟩ := h
  have := (at_held (R := .nil) h1 K ht hz hkey false).1
  rw [h3] at this
  exact this
theorem MapAt.len (h : MapAt w P k b M n) {t e : TypeId} (ht : P.underlying t = some (.map k e)) (ty : TypeId) : (Builtin.len_ #[t] ty #[.map (some b)]).run P w = .ok (.int .i64 (n : Int)) w := by
  obtain ⟨D, h1, h2, h3⟩ := h
  have := h1.len ht ty
  rwa [h2] at this
theorem lookM_put {D : DataW Value} (hD : IsMap D) {kl : Lit} (hk : WideAt.IsKeyLit kl) (v : Value) (x : Lit) : lookM (D.put kl (.held v)) x = updM (lookM D) kl v x := by
  unfold updM
  by_cases e : x = kl
  · subst e
    rw [if_pos (WideAt.sameKey_self hk)]
    unfold lookM
    rw [has_put_same hD hk, atKey_put_same hD hk]; rfl
  · rw [if_neg (by rw [Maps.sameKey_ne e]; simp)]
    unfold lookM
    rw [has_put_other e, atKey_put_other e]
theorem lookM_del {D : DataW Value} {kl : Lit} (hk : WideAt.IsKeyLit kl) (x : Lit) : lookM (D.del kl) x = delM (lookM D) kl x := by
  unfold delM
  by_cases e : x = kl
  · subst e
    rw [if_pos (WideAt.sameKey_self hk)]
    unfold lookM
    rw [has_del_same]; rfl
  · rw [if_neg (by rw [Maps.sameKey_ne e]; simp)]
    unfold lookM
    rw [has_del_other e, atKey_del_other e]
theorem has_isSome {D : DataW Value} (h : w.ownsMap P k hE b n D) (K : Keyed P k) (kl : Lit) : (lookM D kl).isSome = Maps.has D kl := by
  cases hh : Maps.has D kl with
  | false => unfold lookM; rw [hh]; rfl
  | true =>
    obtain ⟨es, clock, hb, F, _, rfl⟩ := h
    obtain ⟨p, hp, hpk⟩ := List.any_eq_true.1 (show (((es.toList.map (rg P k hE)).foldr DataW.insert []).any fun p => p.1.sameKey kl) = true from hh)
    obtain ⟨x, hx, rfl⟩ := List.mem_map.1 (mem_sorted.1 hp)
    obtain ⟨y, hy⟩ := F.reads x hx
    obtain ⟨z, hz, hzd⟩ := rd_val hy
    have hkl : (rg P k hE x).1 = kl := WideAt.sameKey_eq hpk
    have hkey := rd_key hy
    have hat := (atKey_sorted (es.toList.map (rg P k hE)) (Maps.fit_rising K F) kl (by rw [← hkl, rg_of hy]; exact K.key hkey) ).2 (rg P k hE x) (List.mem_map.2 ⟨x, hx, rfl⟩) hkl
    unfold lookM
    rw [hh, hat, rg_of hy, hzd]
    unfold hE at hz
    rw [← Option.some.inj hz]; rfl
theorem MapAt.upd {kl : Lit} (h : MapAt w P k b M n) (K : Keyed P k) {t e : TypeId} (ht : P.underlying t = some (.map k e)) (hn : n < maxLen) {key : Value} (hkey : keyOf P k key = some kl) (v : Value) :
    ∃ w', (Instr.mapUpdate t (.map (some b)) key v).run P w = .ok () w' ∧ MapAt w' P k b (updM M kl v) (n + if (M kl).isSome then 0 else 1) ∧ w.grownBy w' (some b) := by
  obtain ⟨D, h1, h2, h3⟩ := h
  obtain ⟨w', hrun, r1, r2⟩ := h1.update K ht hn hkey (show hE v = some (.held v, []) from rfl)
  have hs : Maps.size (D.put kl (.held v)) = n + if (M kl).isSome then 0 else 1 := by
    rw [size_put (h1.tidy K), ← h3 kl, has_isSome h1 K kl, h2]
    cases Maps.has D kl <;> rfl
  refine ⟨w', hrun, ⟨_, by rw [← hs]; exact own_size r1, hs, fun x => ?_⟩, r2⟩
  rw [lookM_put h1.isMap (K.key hkey)]
  unfold updM
  split
  · rfl
  · exact h3 x
theorem MapAt.del {kl : Lit} (h : MapAt w P k b M n) (K : Keyed P k) {t e : TypeId} (ht : P.underlying t = some (.map k e)) {key : Value} (hkey : keyOf P k key = some kl) (ty : TypeId) :
    ∃ w', (Builtin.delete_ #[t, k] ty #[.map (some b), key]).run P w = .ok (.tuple #[]) w' ∧ MapAt w' P k b (delM M kl) (n - if (M kl).isSome then 1 else 0) ∧ w.grownBy w' (some b) := by
  obtain ⟨D, h1, h2, h3⟩ := h
  obtain ⟨w', hrun, r1, r2⟩ := h1.drop K ht hkey ty
  have hs : Maps.size (D.del kl) = n - if (M kl).isSome then 1 else 0 := by
    have := size_del (k := kl) (h1.tidy K)
    rw [← h3 kl, has_isSome h1 K kl]
    cases hh : Maps.has D kl <;> simp [hh] at this ⊢ <;> omega
  refine ⟨w', hrun, ⟨_, by rw [← hs]; exact own_size r1, hs, fun x => ?_⟩, r2.grown⟩
  rw [lookM_del (K.key hkey)]
  unfold delM
  split
  · rfl
  · exact h3 x
end
def MapRg (w : World) (P : Program) (k : TypeId) (b r : Nat) (M : Lit → Option Value) (n : Nat) (left : Lit → Bool) (cnt : Nat) : Prop :=
  ∃ D : DataW Value, w.ranges P k hE b r n D left cnt ∧ Maps.size D = n ∧ ∀ kl, lookM D kl = M kl
section
variable {w w' : World} {P : Program} {k : TypeId} {b r n cnt : Nat} {M : Lit → Option Value} {left : Lit → Bool}
theorem MapRg.at_ (h : MapRg w P k b r M n left cnt) : MapAt w P k b M n := by obtain ⟨D, h1, h2⟩ := h; exact ⟨D, h1.owns, h2⟩
theorem MapRg.same (h : MapRg w P k b r M n left cnt) (hb : w'.heap[b]? = w.heap[b]?) (hr : w'.heap[r]? = w.heap[r]?) : MapRg w' P k b r M n left cnt := by
  obtain ⟨D, ⟨es, clock, since, seen, c0, a1, a2, a3, a4, a5, a6⟩, h2⟩ := h
  exact ⟨D, ⟨es, clock, since, seen, c0, hb.trans a1, a2, a3, a4, hr.trans a5, a6⟩, h2⟩
theorem MapRg.left_eq (h : MapRg w P k b r M n left cnt) : w.rangeLeft b r = cnt := by obtain ⟨D, h1, _⟩ := h; exact h1.left_eq
theorem MapRg.ne (h : MapRg w P k b r M n left cnt) : r ≠ b := by obtain ⟨D, h1, _⟩ := h; exact h1.ne
theorem MapRg.lt (h : MapRg w P k b r M n left cnt) : r < w.heap.size := by obtain ⟨D, h1, _⟩ := h; exact h1.lt
theorem MapAt.range (h : MapAt w P k b M n) (K : Keyed P k) {t e : TypeId} (ht : P.underlying t = some (.map k e)) :
    ∃ w', (Instr.range t (.map (some b))).run P w = .ok (.pointer (some ⟨w.heap.size, 0, none⟩)) w' ∧ MapRg w' P k b w.heap.size M n (fun kl => (M kl).isSome) n ∧ w.grownBy w' none ∧ w'.heap.size = w.heap.size + 1 := by
  obtain ⟨D, h1, h2, h3⟩ := h
  obtain ⟨w', hrun, r1, r2, r3⟩ := h1.range K ht
  have e : Maps.has D = fun kl => (M kl).isSome := funext fun kl => by rw [← h3 kl, has_isSome h1 K kl]
  rw [e, h2] at r1
  exact ⟨w', hrun, ⟨D, r1, h2, h3⟩, r2, r3⟩
theorem MapRg.next (h : MapRg w P k b r M n left cnt) (K : Keyed P k) (ty : TypeId) :
    (cnt = 0 ∧ (∀ kl, left kl = false) ∧ (Instr.next (.pointer (some ⟨r, 0, none⟩)) false ty).run P w = .ok (.tuple #[.bool false]) w) ∨
    ∃ key v kl w' cnt', keyOf P k key = some kl ∧ left kl = true ∧ M kl = some v ∧ (Instr.next (.pointer (some ⟨r, 0, none⟩)) false ty).run P w = .ok (.tuple #[.bool true, key, v]) w' ∧
      MapRg w' P k b r M n (fun x => left x && !x.sameKey kl) cnt' ∧ cnt' < cnt ∧ w.grownBy w' (some r) ∧ w'.heap.size = w.heap.size ∧ (Instr.entry (.pointer (some ⟨r, 0, none⟩))).run P w' = .ok (.tuple #[key, v]) w' := by
  obtain ⟨D, h1, h2, h3⟩ := h
  rcases h1.next K ty with ⟨a1, a2, a3⟩ | ⟨key, v, kl, y, w', cnt', a1, a2, a3, a4, a5, a6, a7, a8, a9, a10⟩
  · exact .inl ⟨a1, a2, a3⟩
  · refine .inr ⟨key, v, kl, w', cnt', a1, a2, ?_, a5, ⟨D, a6, h2, h3⟩, a7, a8, a9, a10⟩
    unfold hE at a3
    rw [← h3 kl]
    unfold lookM
    rw [has_true_of_atKey a4, a4, ← Option.some.inj a3]; rfl
theorem MapRg.drop (h : MapRg w P k b r M n left cnt) (K : Keyed P k) {t e : TypeId} (ht : P.underlying t = some (.map k e)) {key : Value} {kl : Lit} (hkey : keyOf P k key = some kl) (ty : TypeId) :
    ∃ w' cnt', (Builtin.delete_ #[t, k] ty #[.map (some b), key]).run P w = .ok (.tuple #[]) w' ∧ MapRg w' P k b r (delM M kl) (n - if (M kl).isSome then 1 else 0) (fun x => left x && !x.sameKey kl) cnt' ∧ cnt' ≤ cnt ∧ w.grownBy w' (some b) := by
  obtain ⟨D, h1, h2, h3⟩ := h
  obtain ⟨w', cnt', hrun, r1, r2, r3⟩ := h1.drop K ht hkey ty
  have hs : Maps.size (D.del kl) = n - if (M kl).isSome then 1 else 0 := by
    have := size_del (k := kl) (h1.owns.tidy K)
    rw [← h3 kl, has_isSome h1.owns K kl]
    cases hh : Maps.has D kl <;> simp [hh] at this ⊢ <;> omega
  refine ⟨w', cnt', hrun, ⟨_, ?_, hs, fun x => ?_⟩, r2, r3.grown⟩
  · obtain ⟨es, clock, since, seen, c0, b1, b2, b3, b4, b5⟩ := r1
    refine ⟨es, clock, since, seen, c0, b1, b2, ?_, b4, b5⟩
    rw [← hs, b4]
    simp [Maps.size, length_sorted]
  · rw [lookM_del (K.key hkey)]
    unfold delM
    split
    · rfl
    · exact h3 x
theorem MapRg.store (h : MapRg w P k b r M n left cnt) (K : Keyed P k) {t e : TypeId} (ht : P.underlying t = some (.map k e)) (hn : n < maxLen) {key : Value} {kl : Lit} (hkey : keyOf P k key = some kl) (hM : (M kl).isSome = true) (v : Value) :
    ∃ w', (Instr.mapUpdate t (.map (some b)) key v).run P w = .ok () w' ∧ MapRg w' P k b r (updM M kl v) n left cnt ∧ w.grownBy w' (some b) := by
  have hA := h.at_
  obtain ⟨w', hrun, hA', hg⟩ := hA.upd K ht hn hkey v
  rw [if_pos hM, Nat.add_zero] at hA'
  refine ⟨w', hrun, ?_, hg⟩
  have hne := h.ne
  obtain ⟨D, ⟨es, clock, since, seen, c0, hb, F, hs, hD, hr, hold, hc, hl1, hl2, hsc, hsk⟩, h2, h3⟩ := h
  obtain ⟨D', ⟨es', clock', hb', F', hs', hD'⟩, h2', h3'⟩ := hA'
  rcases K.find w hkey es.toList F.keys with ⟨g1, g2⟩ | ⟨j, e0, g1, g2, g3⟩
  · exfalso
    have hf : Maps.has D kl = false := by
      rw [hD]
      cases hh : Maps.has (DataW.map ((es.toList.map (rg P k hE)).foldr DataW.insert [])) kl with
      | false => rfl
      | true =>
        obtain ⟨p, hp, hpk⟩ := List.any_eq_true.1 (show (((es.toList.map (rg P k hE)).foldr DataW.insert []).any fun p => p.1.sameKey kl) = true from hh)
        obtain ⟨x, hx, rfl⟩ := List.mem_map.1 (mem_sorted.1 hp)
        obtain ⟨y, hy⟩ := F.reads x hx
        have hk1 := rd_key hy
        have : (rg P k hE x).1 = kl := WideAt.sameKey_eq hpk
        rw [rg_of hy] at this
        rw [this] at hk1
        exact absurd (K.inj hk1 hkey) (g2 x hx)
    rw [← h3 kl] at hM
    unfold lookM at hM
    rw [hf] at hM
    cases hM
  · have hj : es[j]? = some e0 := by simpa using g2
    have hrun2 : (Instr.mapUpdate t (.map (some b)) key v).run P w = .ok () (setBlock w b (.map (es.modify j fun e' => { e' with key := key, val := v }) clock)) := by
      simp [Instr.mapUpdate, run_underlying ht, MapKept.run_getObj_map hb, K.check w false hkey, g1, hj, g3, K.stays w hkey, MapKept.run_setObj_map _ hb, Result.andThen, setBlock]
    have hw : w' = setBlock w b (.map (es.modify j fun e' => { e' with key := key, val := v }) clock) := by
      rw [hrun] at hrun2
      injection hrun2
    have hb2 := hb'
    rw [hw, heap_setBlock_same hb] at hb2
    obtain ⟨rfl, rfl⟩ : es' = (es.modify j fun e' => { e' with key := key, val := v }) ∧ clock' = clock := by
      injection hb2 with hb2
      injection hb2 with e1 e2
      exact ⟨e1.symm, e2.symm⟩
    have hlist : (es.modify j fun e' => { e' with key := key, val := v }).toList = es.toList.set j { e0 with key := key, val := v } := by rw [Array.toList_modify, modify_eq_set _ _ _ _ g2]
    have hborn : (es.modify j fun e' => { e' with key := key, val := v }).toList.map (·.born) = es.toList.map (·.born) := by
      rw [hlist, List.map_set]
      refine List.ext_getElem (by simp) fun i h1 h2 => ?_
      rw [List.getElem_set]
      split
      · rename_i e; subst e
        have := (List.getElem?_eq_some_iff.1 g2).2
        simp [this]
      · rfl
    have hmem : ∀ x ∈ (es.modify j fun e' => { e' with key := key, val := v }).toList, ∃ x0 ∈ es.toList, x0.born = x.born ∧ x0.key = x.key := by
      intro x hx
      rw [hlist] at hx
      rcases List.mem_or_eq_of_mem_set hx with h1 | h1
      · exact ⟨x, h1, rfl, rfl⟩
      · exact ⟨e0, List.mem_of_getElem? g2, by rw [h1], by rw [h1]; exact g3⟩
    have hrgk : ∀ x ∈ (es.modify j fun e' => { e' with key := key, val := v }).toList, ∀ x0 ∈ es.toList, x0.key = x.key → (rg P k hE x0).1 = (rg P k hE x).1 := by
      intro x hx x0 hx0 e
      obtain ⟨y, hy⟩ := F'.reads x hx
      obtain ⟨y0, hy0⟩ := F.reads x0 hx0
      have m1 := rd_key hy
      have m0 := rd_key hy0
      rw [e, m1] at m0
      rw [rg_of hy, rg_of hy0]
      exact (Option.some.inj m0).symm
    refine ⟨D', ⟨_, _, since, seen, c0, hb', F', hs', hD', ?_, fun x hx => ?_, ?_, fun x hx => ?_, fun kl' hk' => ?_, hsc, hsk⟩, h2', h3'⟩
    · rw [hw]; exact (heap_setBlock_other hb _ hne).trans hr
    · obtain ⟨x0, hx0, e1, _⟩ := hmem x hx
      rw [← e1]; exact hold x0 hx0
    · rw [← hc]
      have e1 : ∀ a : Array MapEntry, (leftOf a seen).size = ((a.toList.map (·.born)).filter fun q => !seen.contains q).length := fun a => by
        unfold leftOf
        rw [← Array.length_toList, Array.toList_filter, List.filter_map, List.length_map]
        rfl
      rw [e1, e1, hborn]
    · obtain ⟨x0, hx0, e1, e2⟩ := hmem x hx
      rw [← hrgk x hx x0 hx0 e2, hl1 x0 hx0, e1]
    · obtain ⟨x, hx, rfl⟩ := hl2 kl' hk'
      obtain ⟨i, hi, rfl⟩ := List.mem_iff_getElem.1 hx
      have hi2 : i < (es.modify j fun e' => { e' with key := key, val := v }).toList.length := by rw [hlist]; simpa using hi
      refine ⟨_, List.getElem_mem hi2, (hrgk _ (List.getElem_mem hi2) _ (List.getElem_mem hi) ?_).symm⟩
      simp only [hlist, List.getElem_set]
      split
      · rename_i e; subst e
        have := (List.getElem?_eq_some_iff.1 g2).2
        rw [this]; exact g3
      · rfl
end
end Go.Proofs.YtniklmikdkjgiaaGreatDoor
namespace Go.Proofs.YtniklmikdkjgiaaGreatDoor
open Go.RowKit
theorem step_appB {P : Program} {ops : Array Oper} {o : Oper} {a : Act} {K : Act → World → Prop} {Q : Exit → Act → World → Prop} {E : Prop} (hgd : o.guard = none) (s x : Operand) (t : TypeId)
    (ho : o.op = .call { callee := .builtin .append, args := #[s, x], argTypes := #[t, t] }) {e : TypeId} {z : Value} {size bytes : Nat}
    (ht : P.underlying t = some (.slice e)) (hinfo : (P.info? e).map (fun i => (i.zero, i.size, i.bytes)) = some (some z, size, bytes)) (hzs : z.cells.size = size) (hsz : 0 < size)
    (base : Nat) (v : Value) (n m : Nat) (xs : List Value) (w0 : World) (cs : Array Value) (hcs : cs.size = m * size) (h1 : ∀ u ∈ cs.toList, u.oneCell' = true)
    (hs : a.eval s = v) {g : Nat} (hx : a.eval x = .slice (some ⟨g, 0, none⟩) m m) (hg : w0.heap.size = g) (hown : w0.ownsRow base e size v n xs) (hb : base ≤ w0.heap.size)
    (hbytes : (n + m) * bytes ≤ 140737488355328) (hmax : n + m ≤ 9223372036854775807) (hm : 0 < m)
    (h : ∀ A c w', w'.ownsRow base e size (.slice A (n + m) c) (n + m) (xs ++ cs.toList) → Below base w0 w' → (w0.alloc (.cells cs e)).grownBy w' v.ownBlock → K (a.put o.dst (.slice A (n + m) c)) w') :
    if Region.wanted o (yielded ops a.tmps) = true then Oper.wp P o a (w0.alloc (.cells cs e)) K Q else E := by
  subst hg
  obtain ⟨i, hi, hz, hsi, hby⟩ := info_parts hinfo
  refine step_append_lies (w0.alloc (.cells cs e)) hgd s x t ho base e i z size bytes ht hi hz hsi hby hzs hsz v n xs hs (hown.alloc _) ⟨w0.heap.size, 0, none⟩ m m cs.toList hx (by simpa using hcs)
    (World.news_of_block (cs := cs) (t := e) (fr := (0, 0)) (heap_alloc_new w0 _)) h1 hm (by simpa [maxLen] using hmax) hbytes (by simp; omega) _ rfl ?_
  intro g cap w' hown' hg _ _
  exact h _ _ w' hown' (((Below.refl base w0).alloc hb _).trans (grown_below hg (fun k hk => (hown.lt k hk).1) (by simp; omega))) hg
def Kx (n₀ Bo : Nat) (A B : World) : Prop := A.heap.size ≤ B.heap.size ∧ ∀ k, k < n₀ → k ≠ Bo → B.heap[k]? = A.heap[k]?
theorem Kx.trans {n₀ Bo : Nat} {A B C : World} (h : Kx n₀ Bo A B) (k : Kx n₀ Bo B C) : Kx n₀ Bo A C := ⟨Nat.le_trans h.1 k.1, fun j hj hne => (k.2 j hj hne).trans (h.2 j hj hne)⟩
theorem Kx.of_below {n₀ Bo : Nat} {A B : World} (h : Below n₀ A B) : Kx n₀ Bo A B := ⟨h.size, fun j hj _ => h.block j hj⟩
theorem Kx.set {n₀ Bo : Nat} {A B : World} (h : Kx n₀ Bo A B) (i : Nat) (v : Value) : Kx n₀ Bo A (B.setCell ⟨Bo, i, none⟩ v) :=
  ⟨by have := (KeepsWalks.setCell B ⟨Bo, i, none⟩ v).size; exact Nat.le_trans h.1 this, fun j hj hne => (Below.heap_setCell _ _ _ j (fun e => hne e)).trans (h.2 j hj hne)⟩
theorem Kx.putObj {n₀ Bo : Nat} {w : World} (hn : n₀ ≤ w.heap.size) (W : World) (l : Nat) (o o' : Obj) (hl : w.heap.size ≤ l) (_ : W.heap[l]? = some o) (_ : o.isCells = false) (_ : o.isWalk = false) : Kx n₀ Bo W (W.putObj l o') := by
  have hg := grownBy_putObj' W l o'
  refine ⟨hg.size, fun j hj _ => ?_⟩
  rcases Nat.lt_or_ge j W.heap.size with h | h
  · exact hg.block j h (fun e => by cases e; omega)
  · have h2 : (W.putObj l o').heap.size = W.heap.size := World.putObj_size
    rw [Array.getElem?_eq_none h, Array.getElem?_eq_none (by omega)]
theorem Kx.cell {n₀ Bo : Nat} {A B : World} (h : Kx n₀ Bo A B) {p : Addr} (hp : p.block < n₀) (hne : p.block ≠ Bo) : B.cell? p = A.cell? p := World.cell?_of_block (h.2 p.block hp hne)
theorem Kx.drewN {n₀ Bo : Nat} {A B : World} (h : Kx n₀ Bo A B) (n : Nat) : Kx n₀ Bo A (B.drewN n) := h
theorem Kx.refl (n₀ Bo : Nat) (A : World) : Kx n₀ Bo A A := ⟨Nat.le_refl _, fun _ _ _ => rfl⟩
end Go.Proofs.YtniklmikdkjgiaaGreatDoor
