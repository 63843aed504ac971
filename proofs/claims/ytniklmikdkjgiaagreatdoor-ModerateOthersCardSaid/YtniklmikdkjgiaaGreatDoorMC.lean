/- WORDS: entries in boxes, found by a map; WALK: moderate.entries. -/
import Derived.Test.YtniklmikdkjgiaaGreatDoorMB
set_option linter.unusedSimpArgs false
set_option linter.unusedVariables false
namespace Go.Proofs.YtniklmikdkjgiaaGreatDoor
open Go.RowKit

theorem zPtr (w : World) : (zeroValue 98).run Tryz.prog w = .ok (.pointer none) w := by kernel_rfl
theorem info_ptr : (Tryz.prog.info? 98).map (fun i => (i.zero, i.size, i.bytes)) = some (some (.pointer none), 1, 8) := by kernel_rfl
def pv (q : Sx × Nat) : Value := .pointer (some ⟨q.2, 0, none⟩)
def findE (L : List (Sx × Nat)) (t : Tx) : Option (Sx × Nat) := L.find? fun q => decide (q.1.id = t)
def ptrM (L : List (Sx × Nat)) : Lit → Option Value
  | .string t => (findE L t).map pv
  | _ => none
theorem findE_no {L : List (Sx × Nat)} {t : Tx} (h : findE L t = none) : hasS (L.map (·.1)) t = false := by
  unfold findE at h
  rw [List.find?_eq_none] at h
  cases hh : hasS (L.map (·.1)) t
  · rfl
  · obtain ⟨e, he, e1⟩ := (hasS_iff _ _).1 hh
    obtain ⟨q, hq, rfl⟩ := List.mem_map.1 he
    exact absurd e1 (by simpa using h q hq)
theorem findE_yes {L : List (Sx × Nat)} {t : Tx} {q : Sx × Nat} (h : findE L t = some q) : q ∈ L ∧ q.1.id = t := by
  unfold findE at h
  exact ⟨List.mem_of_find?_eq_some h, by simpa using List.find?_some h⟩
theorem findE_has {L : List (Sx × Nat)} {t : Tx} {q : Sx × Nat} (h : findE L t = some q) : hasS (L.map (·.1)) t = true := by
  obtain ⟨h1, h2⟩ := findE_yes h
  exact (hasS_iff _ _).2 ⟨q.1, List.mem_map.2 ⟨q, h1, rfl⟩, h2⟩
theorem ptrM_add (L : List (Sx × Nat)) (q : Sx × Nat) (h : findE L q.1.id = none) : updM (ptrM L) (.string q.1.id) (pv q) = ptrM (L ++ [q]) := by
  funext x
  unfold updM
  by_cases e : x = .string q.1.id
  · subst e
    rw [if_pos (by rw [same_str]; simp)]
    show some (pv q) = (findE (L ++ [q]) q.1.id).map pv
    unfold findE at h ⊢
    rw [List.find?_append, h]
    simp
  · rw [if_neg (by rw [Maps.sameKey_ne e]; simp)]
    cases x with
    | string s =>
      have hs : q.1.id ≠ s := fun h => e (by rw [h])
      show (findE L s).map pv = (findE (L ++ [q]) s).map pv
      unfold findE
      rw [List.find?_append]
      simp [hs]
    | _ => rfl
theorem findE_map (f : Sx → Sx) (hf : ∀ e, (f e).id = e.id) (t : Tx) : ∀ L : List (Sx × Nat), (findE (L.map fun q => (f q.1, q.2)) t).map pv = (findE L t).map pv
  | [] => rfl
  | q :: L => by
    have ih := findE_map f hf t L
    unfold findE at ih ⊢
    rw [List.map_cons, List.find?_cons, List.find?_cons]
    dsimp only
    rw [hf]
    split
    · rfl
    · exact ih
theorem ptrM_map (f : Sx → Sx) (hf : ∀ e, (f e).id = e.id) (L : List (Sx × Nat)) : ptrM (L.map fun q => (f q.1, q.2)) = ptrM L := by
  funext x
  cases x with
  | string s => exact findE_map f hf s L
  | _ => rfl
theorem nodup_inj {α β : Type} {f : α → β} : ∀ {L : List α}, (L.map f).Nodup → ∀ {a b : α}, a ∈ L → b ∈ L → f a = f b → a = b
  | [], _, _, _, ha, _, _ => by cases ha
  | x :: L, h, a, b, ha, hb, e => by
    rw [List.map_cons, List.nodup_cons] at h
    rcases List.mem_cons.1 ha with rfl | ha'
    · rcases List.mem_cons.1 hb with rfl | hb'
      · rfl
      · exact absurd (List.mem_map.2 ⟨b, hb', e.symm⟩) h.1
    · rcases List.mem_cons.1 hb with rfl | hb'
      · exact absurd (List.mem_map.2 ⟨a, ha', e⟩) h.1
      · exact nodup_inj h.2 ha' hb' e
theorem map_blk {w : World} {P : Program} {k : TypeId} {b n : Nat} {M : Lit → Option Value} (h : MapAt w P k b M n) : ∃ es clock, w.heap[b]? = some (.map es clock) := by
  obtain ⟨D, ⟨es, clock, h0, -⟩, -⟩ := h
  exact ⟨es, clock, h0⟩
theorem own_cells {w : World} {B size n : Nat} {e : TypeId} {v : Value} {xs : List Value} (h : w.ownsRow B e size v n xs) {g : Nat} (hg : v.ownBlock = some g) : B ≤ g ∧ ∃ cur, w.heap[g]? = some (.cells cur e (0, 0)) := by
  rcases h.2 with ⟨rfl, -⟩ | ⟨g', cap, cur, rfl, h1, h2, -⟩
  · cases hg
  · injection hg with hg
    subst hg
    exact ⟨h1, cur, h2⟩
structure EnI (w0 w : World) (bm : Nat) (L : List (Sx × Nat)) (v : Value) (nk : Nat) : Prop where
  bel : Below w0.heap.size w0 w
  mp : MapAt w Tryz.prog 9 bm (ptrM L) nk
  bmb : w0.heap.size ≤ bm
  box : ∀ q ∈ L, w.heap[q.2]? = some (.cells (enRow q.1) 100 (0, 0))
  big : ∀ q ∈ L, w0.heap.size ≤ q.2
  own : w.ownsRow w0.heap.size 98 1 v L.length (L.map pv)
  nd : (L.map (·.1.id)).Nodup
  nd2 : (L.map (·.2)).Nodup
  nk : nk ≤ L.length
theorem EnI.call {w0 w u : World} {bm : Nat} {L : List (Sx × Nat)} {v : Value} {nk : Nat} (h : EnI w0 w bm L v nk) (k : Below w.heap.size w u) : EnI w0 u bm L v nk :=
  ⟨h.bel.trans (k.mono h.bel.size), h.mp.same (k.block bm h.mp.lt), h.bmb, fun q hq => (k.block q.2 (lt_of_block (h.box q hq))).trans (h.box q hq), h.big, own_below h.own k (Nat.le_refl _), h.nd, h.nd2, h.nk⟩
theorem EnI.map7 {w0 u w7 : World} {bm : Nat} {L : List (Sx × Nat)} {v : Value} {nk : Nat} (h : EnI w0 u bm L v nk) {o : Obj} (hg : (u.alloc o).grownBy w7 v.ownBlock) : MapAt w7 Tryz.prog 9 bm (ptrM L) nk := by
  obtain ⟨es, clock, hmb⟩ := map_blk h.mp
  refine h.mp.same ((hg.block bm (by have := h.mp.lt; simp; omega) (fun e1 => ?_)).trans (alloc_old _ _ h.mp.lt))
  obtain ⟨-, cur, hcur⟩ := own_cells h.own e1.symm
  rw [hmb] at hcur; cases hcur
theorem EnI.add {w0 u w7 w8 : World} {bm : Nat} {L : List (Sx × Nat)} {v v7 : Value} {nk nk' : Nat} (h : EnI w0 u bm L v nk) (e : Sx) (hn : findE L e.id = none)
    (ho : w7.ownsRow w0.heap.size 98 1 v7 (L.length + 1) (L.map pv ++ [pv (e, u.heap.size)])) (hg : (u.alloc (.cells (enRow e) 100)).grownBy w7 v.ownBlock)
    (hm : MapAt w8 Tryz.prog 9 bm (updM (ptrM L) (.string e.id) (pv (e, u.heap.size))) nk') (hg8 : w7.grownBy w8 (some bm)) (hk : nk' ≤ L.length + 1) : EnI w0 w8 bm (L ++ [(e, u.heap.size)]) v7 nk' := by
  have lbm := h.mp.lt
  obtain ⟨es, clock, hmb⟩ := map_blk h.mp
  have nov : ∀ g, g < u.heap.size → (∀ cur, u.heap[g]? ≠ some (.cells cur 98 (0, 0))) → w7.heap[g]? = u.heap[g]? := fun g hgl hc => by
    refine (hg.block g (by simp; omega) (fun e1 => ?_)).trans (alloc_old _ _ hgl)
    obtain ⟨-, cur, hcur⟩ := own_cells h.own e1.symm
    exact hc cur hcur
  have bm7 : w7.heap[bm]? = some (.map es clock) := (nov bm lbm (fun cur hc => by rw [hmb] at hc; cases hc)).trans hmb
  have keep8 : ∀ g, g < w7.heap.size → (∀ es clock, w7.heap[g]? ≠ some (.map es clock)) → w8.heap[g]? = w7.heap[g]? := fun g hgl hc => hg8.block g hgl (fun e1 => by
    injection e1 with e1
    subst e1
    exact hc _ _ bm7)
  have z7 : u.heap.size + 1 ≤ w7.heap.size := by have := hg.size; simpa using this
  have box7 : ∀ q ∈ L, w7.heap[q.2]? = some (.cells (enRow q.1) 100 (0, 0)) := fun q hq => (nov q.2 (lt_of_block (h.box q hq)) (fun cur hc => by rw [h.box q hq] at hc; injection hc with hc; injection hc with _ hc; revert hc; decide)).trans (h.box q hq)
  have new7 : w7.heap[u.heap.size]? = some (.cells (enRow e) 100 (0, 0)) := by
    refine (hg.block u.heap.size (by simp) (fun e1 => ?_)).trans (heap_alloc_new u _)
    obtain ⟨-, cur, hcur⟩ := own_cells h.own e1.symm
    have := lt_of_block hcur
    omega
  have up : ∀ (g : Nat) (cs : Array Value) (t : TypeId), w7.heap[g]? = some (Obj.cells cs t (0, 0)) → w8.heap[g]? = some (Obj.cells cs t (0, 0)) := fun g cs t hc => (keep8 g (lt_of_block hc) (fun es clock hd => by rw [hc] at hd; cases hd)).trans hc
  have lt2 : ∀ q ∈ L, q.2 < u.heap.size := fun q hq => lt_of_block (h.box q hq)
  refine ⟨?_, ?_, h.bmb, ?_, ?_, ?_, ?_, ?_, by simpa using hk⟩
  · have b1 : Below w0.heap.size u w7 := ((Below.refl _ _).alloc h.bel.size _).trans (grown_below hg (fun k hk => (own_cells h.own hk).1) (by have := h.bel.size; simp; omega))
    exact h.bel.trans (b1.trans ⟨hg8.os, hg8.tape, hg8.output, hg8.size, fun k hk => hg8.block k (Nat.lt_of_lt_of_le hk (by have := h.bel.size; omega)) (fun e1 => by injection e1 with e1; have := h.bmb; omega)⟩)
  · rw [← ptrM_add L (e, u.heap.size) hn]; exact hm
  · intro q hq
    rcases List.mem_append.1 hq with hq | hq
    · exact up _ _ _ (box7 q hq)
    · rw [List.mem_singleton.1 hq]; exact up _ _ _ new7
  · intro q hq
    rcases List.mem_append.1 hq with hq | hq
    · exact h.big q hq
    · rw [List.mem_singleton.1 hq]; exact h.bel.size
  · rw [List.length_append, List.map_append]
    refine own_sameG ho (fun g hgo => ?_)
    obtain ⟨-, cur, hc⟩ := own_cells ho hgo
    exact (up _ _ _ hc).trans hc.symm
  · rw [List.map_append]
    refine nodup_snoc h.nd (fun hm2 => ?_)
    obtain ⟨q, hq, e1⟩ := List.mem_map.1 hm2
    have := findE_no hn
    rw [(hasS_iff _ _).2 ⟨q.1, List.mem_map.2 ⟨q, hq, rfl⟩, e1⟩] at this
    cases this
  · rw [List.map_append]
    refine nodup_snoc h.nd2 (fun hm2 => ?_)
    obtain ⟨q, hq, e1⟩ := List.mem_map.1 hm2
    have := lt2 q hq
    have e2 : q.2 = u.heap.size := e1
    omega
theorem EnI.obey {w0 u u' : World} {bm : Nat} {L : List (Sx × Nat)} {v : Value} {nk : Nat} (h : EnI w0 u bm L v nk) {r : RV} {q : Sx × Nat} (hq : findE L r.target = some q) (k : EnP q.2 q.1 r u u') : EnI w0 u' bm (L.map fun x => (obeyS r x.1, x.2)) v nk := by
  obtain ⟨hm, hid⟩ := findE_yes hq
  obtain ⟨es, clock, hmb⟩ := map_blk h.mp
  have nb : bm ≠ q.2 := fun e => by have := h.box q hm; rw [← e, hmb] at this; cases this
  refine ⟨h.bel.trans (k.but.below h.bel.size (fun x hx => by rw [hx]; exact h.big q hm)), ?_, h.bmb, ?_, ?_, ?_, ?_, ?_, by simpa using h.nk⟩
  · rw [ptrM_map _ (obeyS_id r)]; exact h.mp.same (k.but.block bm h.mp.lt nb)
  · intro x hx
    obtain ⟨y, hy, rfl⟩ := List.mem_map.1 hx
    by_cases e : y.1.id = r.target
    · obtain rfl : y = q := nodup_inj h.nd hy hm (e.trans hid.symm)
      show _ = some (Obj.cells (enRow (obeyS r y.1)) _ _)
      unfold obeyS
      rw [if_pos e]
      exact k.row
    · have ne : y.2 ≠ q.2 := fun e2 => e (by rw [nodup_inj h.nd2 hy hm e2]; exact hid)
      show _ = some (Obj.cells (enRow (obeyS r y.1)) _ _)
      unfold obeyS
      rw [if_neg e]
      exact (k.but.block y.2 (lt_of_block (h.box y hy)) ne).trans (h.box y hy)
  · intro x hx
    obtain ⟨y, hy, rfl⟩ := List.mem_map.1 hx
    exact h.big y hy
  · rw [List.length_map, List.map_map]
    refine own_sameG h.own (fun g hg => ?_)
    obtain ⟨-, cur, hc⟩ := own_cells h.own hg
    refine k.but.block g (lt_of_block hc) (fun e => ?_)
    have := h.box q hm
    rw [show g = q.2 from e] at hc
    rw [hc] at this
    injection this with this
    injection this with _ this
    revert this; decide
  · rw [List.map_map]
    have : (L.map ((fun x : Sx × Nat => x.1.id) ∘ fun x => (obeyS r x.1, x.2))) = L.map (·.1.id) := List.map_congr_left (fun x _ => obeyS_id r x.1)
    rw [this]; exact h.nd
  · rw [List.map_map]; exact h.nd2
theorem contains_any (A : Option Addr) (n c : Nat) (l : List Int) (x : Int) (w : World) (hn : n = l.length) (hl : n ≤ 1000000) (h : Rd w A (intsL l)) :
    Calls Tryz.prog 103 #[.slice A n c, .int .i64 x] w fun e w' => e = .returned (.bool (inI l x)) ∧ Below w.heap.size w w' := by
  have ei : inI l x = l.contains x := by
    unfold inI
    rw [List.contains_eq_any_beq]
    congr 1
    funext y
    by_cases hy : y = x
    · subst hy; simp
    · rw [show (y == x) = false by simpa using hy, show (x == y) = false by simpa using (fun e : x = y => hy e.symm)]
  rcases Nat.eq_zero_or_pos n with h0 | hp
  · obtain rfl : l = [] := List.eq_nil_of_length_eq_zero (by omega)
    subst h0
    refine (Tryz.slices_Contains_int_empty A c x w).mono ?_
    rintro e w' ⟨rfl, rfl⟩
    exact ⟨rfl, Below.refl _ _⟩
  · obtain ⟨b, off, rfl, hb, -⟩ := ints_at h (k := 0) (by omega)
    refine (Tryz.slices_Contains_int b off n c l x w (by omega) (by omega) (fun j hj => ?_)).mono ?_
    · obtain ⟨b', off', e', -, cj⟩ := ints_at h hj
      obtain ⟨rfl, rfl⟩ : b = b' ∧ off = off' := by injection e' with e'; injection e' with e1 e2; exact ⟨e1, e2⟩
      rw [cj, List.getD_eq_getElem?_getD, List.getElem?_eq_getElem hj]; rfl
    · rintro e w' ⟨rfl, rfl⟩
      rw [List.take_of_length_le (by omega), ei]
      exact ⟨rfl, Below.refl _ _⟩
end Go.Proofs.YtniklmikdkjgiaaGreatDoor
