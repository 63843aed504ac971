import Derived.Test.YtniklmikdkjgiaaGreatDoorcXH
import Derived.Great.BuildSlice
import Derived.Deep.RegionHeld
set_option linter.all false
set_option maxHeartbeats 16000000
set_option maxRecDepth 100000
namespace Go.Proofs.YtniklmikdkjgiaaGreatDoor
open Go.RowKit
def rvsL (l : List RV) : List Value := l.flatMap rvL
theorem rvsL_len (l : List RV) : (rvsL l).length = l.length * 21 := flat_len rvL 21 (fun _ => rfl) l
structure Rs (w : World) (A : Option Addr) (l : List RV) : Prop where
  rd : Rd w A (rvsL l)
  is : ∀ r ∈ l, RvIs w r
  sz : ∀ r ∈ l, RcSz r.c
  len : l.length ≤ 100000
theorem Rs.below {w w' : World} {A : Option Addr} {l : List RV} (h : Rs w A l) (hb : Below w.heap.size w w') : Rs w' A l := ⟨h.rd.below hb, fun e he => (h.is e he).below hb, h.sz, h.len⟩
def rcsC (l : List RV) : List Rc := l.map RV.c
theorem rv_open {w : World} {r : RV} (h : RvIs w r) : ∃ A0 c0 A1 c1 A2 c2 A3 c3 A4 c4 A5 c5 A6 c6 A7 c7, rvL r = [.int .i64 r.kind, .int .i64 r.author, .int .i64 r.number, .int .i64 r.clock, .string (mkB r.branch), .slice A0 r.parents.length c0, .slice A1 r.edits.length c1, .string (mkB r.target), .bool r.yes, .int .i64 r.order, .string (mkB r.frm), .int .i64 r.sla.index, .slice A2 r.sla.sig.length c2, .slice A3 r.sla.path.length c3, .string (mkB r.name), .string (mkB r.reason), .slice A4 r.sources.length c4, .slice A5 r.trace.length c5, .int .i64 r.pseal.index, .slice A6 r.pseal.sig.length c6, .slice A7 r.pseal.path.length c7] ∧ r.pav = .slice A0 r.parents.length c0 ∧ r.edv = .slice A1 r.edits.length c1 ∧ r.sla.sv = .slice A2 r.sla.sig.length c2 ∧ r.sla.pv = .slice A3 r.sla.path.length c3 ∧ r.sov = .slice A4 r.sources.length c4 ∧ r.trv = .slice A5 r.trace.length c5 ∧ r.pseal.sv = .slice A6 r.pseal.sig.length c6 ∧ r.pseal.pv = .slice A7 r.pseal.path.length c7 := by
  obtain ⟨⟨A0, c0, v0, -⟩, ⟨A1, c1, v1, -⟩, ⟨⟨A2, c2, v2, -⟩, ⟨A3, c3, v3, -⟩⟩, ⟨A4, c4, v4, -⟩, ⟨A5, c5, v5, -⟩, ⟨⟨A6, c6, v6, -⟩, ⟨A7, c7, v7, -⟩⟩⟩ := h
  exact ⟨A0, c0, A1, c1, A2, c2, A3, c3, A4, c4, A5, c5, A6, c6, A7, c7, by unfold rvL; rw [v0, v1, v2, v3, v4, v5, v6, v7], v0, v1, v2, v3, v4, v5, v6, v7⟩
theorem rvs_at {w : World} {A : Option Addr} {l : List RV} (h : Rd w A (rvsL l)) {k : Nat} (hk : k < l.length) :
    ∃ b off, A = some ⟨b, off, none⟩ ∧ b < w.heap.size ∧ ∀ i v, (rvL l[k])[i]? = some v → w.cell? ⟨b, off + k * 21 + i, none⟩ = some v := by
  obtain ⟨b, off, e, hb, hc⟩ := h (by rw [rvsL_len]; omega)
  refine ⟨b, off, e, hb, fun i v hv => ?_⟩
  have := hc (k * 21 + i) v (flat_get rvL 21 (fun _ => rfl) hk hv)
  rwa [← Nat.add_assoc] at this
def zeroSl : SlV := ⟨0, [], [], .slice none 0 0, .slice none 0 0⟩
theorem zeroSl_is (w : World) : SlvIs w zeroSl := ⟨⟨none, 0, rfl, Rd.nil_ _ _⟩, ⟨none, 0, rfl, Rd.nil_ _ _⟩⟩
theorem zeroSe_sz : SeSz ⟨0, [], []⟩ := ⟨by decide, (by intro t h; cases h), by decide, (by intro t h; cases h)⟩
theorem load_block {t : TypeId} {w : World} {g : Nat} {cs : Array Value} (h : w.heap[g]? = some (.cells cs t (0, 0))) {i : Nat} {v : Value} (hv : cs[i]? = some v) : w.cell? ⟨g, i, none⟩ = some v := by rw [Lib.cell_of_heap h]; exact hv
end Go.Proofs.YtniklmikdkjgiaaGreatDoor
namespace Go.Proofs.YtniklmikdkjgiaaGreatDoor
open Go.RowKit
theorem wpList_load_midG {P : Program} {Q : Exit → Act → World → Prop} {w : World} {ops : Array Oper} {rest : List Oper} {op : Oper} {a : Act} (hw : Region.wanted op (yielded ops a.tmps) = true) (ty : TypeId) (x : Operand) (ho : op.op = .load ty x)
    (b o : Nat) (hx : a.eval x = .pointer (some ⟨b, o, none⟩)) (cs : List Value) (d : TypeDesc) (hc : w.rangeAt b o cs)
    (hu : P.underlying ty = some d) (hd : d.isRow = true) (hi : (P.info? ty).map (·.size) = some cs.length)
    (h : wpList P ops Q rest (a.put op.dst (.agg cs.toArray)) w) : wpList P ops Q (op :: rest) a w :=
  wpList_step fun K hK => by
    rw [if_pos hw]
    exact wp_load_mid ty x ho b o hx cs d hc hu hd hi (hK _ _ h)
theorem setCells_fresh (w : World) (z cs : List Value) (hz : z.length = 21) (hc : cs.length = 21) (h1 : cs.toArray.all (·.oneCell') = true) : (w.alloc (.cells z.toArray 56)).setCells w.heap.size 0 cs = w.alloc (.cells cs.toArray 56) := by
  have hi : (Tryz.prog.info? 56).map (·.size) = some cs.toArray.size := by rw [List.size_toArray, hc]; kernel_rfl
  have a := run_storeVar_new (P := Tryz.prog) w 56 z.toArray cs.toArray hi (by simp [hz, hc]) h1
  have b := run_storeVar_mid (P := Tryz.prog) (w.alloc (.cells z.toArray 56)) w.heap.size 0 56 cs.toArray (there_of_row (heap_alloc_new w _) (by simp [hz, hc])) hi h1
  rw [a] at b
  injection b with _ e
  exact e.symm
theorem rvL_one (r : RV) (h : ∃ w, RvIs w r) : (rvL r).toArray.all (·.oneCell') = true := by
  obtain ⟨w, h⟩ := h
  obtain ⟨A0, c0, A1, c1, A2, c2, A3, c3, A4, c4, A5, c5, A6, c6, A7, c7, hv, -⟩ := rv_open h
  rw [hv]; simp [Value.oneCell']
end Go.Proofs.YtniklmikdkjgiaaGreatDoor
namespace Go.Proofs.YtniklmikdkjgiaaGreatDoor
open Go.RowKit
def intsL (l : List Int) : List Value := l.map fun i => .int .i64 i
theorem wpList_appNG {P : Program} {ops : Array Oper} {rest : List Oper} {o : Oper} {a : Act} {Q : Exit → Act → World → Prop} {w0 : World} (hgd : o.guard = none) (s x : Operand) (t : TypeId)
    (ho : o.op = .call { callee := .builtin .append, args := #[s, x], argTypes := #[t, t] }) {e : TypeId} {z : Value} {size bytes : Nat}
    (ht : P.underlying t = some (.slice e)) (hinfo : (P.info? e).map (fun i => (i.zero, i.size, i.bytes)) = some (some z, size, bytes)) (hzs : z.cells.size = size) (hsz : 0 < size)
    (base : Nat) (v : Value) (n : Nat) (xs : List Value) (cs : Array Value) (m : Nat) (hm : 0 < m) (hcs : cs.size = m * size) (h1 : ∀ u ∈ cs.toList, u.oneCell' = true)
    (hs : a.eval s = v) {g : Nat} (hx : a.eval x = .slice (some ⟨g, 0, none⟩) m m) (hg : w0.heap.size = g) (hown : w0.ownsRow base e size v n xs) (hb : base ≤ w0.heap.size)
    (hbytes : (n + m) * bytes ≤ 140737488355328) (hmax : n + m ≤ 9223372036854775807)
    (h : ∀ g' c' w', w'.ownsRow base e size (.slice (some ⟨g', 0, none⟩) (n + m) c') (n + m) (xs ++ cs.toList) → w0.grownBy w' v.ownBlock → (v.ownBlock = some g' ∨ w0.heap.size ≤ g') → Below base w0 w' → wpList P ops Q rest (a.put o.dst (.slice (some ⟨g', 0, none⟩) (n + m) c')) w') :
    wpList P ops Q (o :: rest) a (w0.alloc (.cells cs e)) := by
  subst hg
  obtain ⟨i, hi, hz, hsi, hby⟩ := info_parts hinfo
  refine wpList_append_lies (w0.alloc (.cells cs e)) hgd s x t ho base e i z size bytes ht hi hz hsi hby hzs hsz v n xs hs (hown.alloc _) ⟨w0.heap.size, 0, none⟩ m m cs.toList hx (by simpa using hcs)
    (World.news_of_block (cs := cs) (t := e) (fr := (0, 0)) (heap_alloc_new w0 _)) h1 hm (by simpa [maxLen] using hmax) hbytes (by simp; omega) _ rfl ?_
  intro g cap w' hown' hg hgo _
  have hg0 : w0.grownBy w' v.ownBlock := ⟨hg.os, hg.tape, hg.output, Nat.le_trans (by simp) hg.size, fun k hk hne => (hg.block k (by simp; omega) hne).trans (alloc_old _ _ hk)⟩
  exact h g cap w' hown' hg0 (hgo.imp id (fun e => by rw [e]; simp)) (grown_below hg0 (fun k hk => (hown.lt k hk).1) hb)
theorem info_int : (Tryz.prog.info? 3).map (fun i => (i.zero, i.size, i.bytes)) = some (some (.int .i64 0), 1, 8) := by kernel_rfl
end Go.Proofs.YtniklmikdkjgiaaGreatDoor
namespace Go.Proofs.YtniklmikdkjgiaaGreatDoor
open Go.RowKit
def zRow : List Value := [.int .i64 0, .int .i64 0, .int .i64 0, .int .i64 0, .string ⟨#[]⟩, .slice none 0 0, .slice none 0 0, .string ⟨#[]⟩, .bool false, .int .i64 0, .string ⟨#[]⟩, .int .i64 0, .slice none 0 0, .slice none 0 0, .string ⟨#[]⟩, .string ⟨#[]⟩, .slice none 0 0, .slice none 0 0, .int .i64 0, .slice none 0 0, .slice none 0 0]
end Go.Proofs.YtniklmikdkjgiaaGreatDoor
namespace Go.Proofs.YtniklmikdkjgiaaGreatDoor
open Go.RowKit
section
variable {α β : Type} {f : α → β → Bool}
end
def prL (r : RV) : List Value := [.string (mkB r.name), .string (mkB r.reason), r.sov, r.trv, .int .i64 r.pseal.index, r.pseal.sv, r.pseal.pv]
theorem range_sub {w : World} {b o : Nat} {cs ds : List Value} (n : Nat) (h : w.rangeAt b o cs) (hs : ∀ j v, ds[j]? = some v → cs[n + j]? = some v) : w.rangeAt b (o + n) ds := fun j v hv => by
  have := h (n + j) v (hs j v hv)
  rwa [← Nat.add_assoc] at this
theorem rv_prv {w : World} {b o : Nat} {r : RV} (h : w.rangeAt b o (rvL r)) : w.rangeAt b (o + 14) (prL r) := range_sub 14 h (fun j v hv => by
  match j, hv with
  | 0, hv => exact hv
  | 1, hv => exact hv
  | 2, hv => exact hv
  | 3, hv => exact hv
  | 4, hv => exact hv
  | 5, hv => exact hv
  | 6, hv => exact hv)
theorem ev_obj {w : World} {b o : Nat} {e : EV} (h : w.rangeAt b o (evL e)) : w.rangeAt b (o + 9) (roC e.o) := range_sub 9 h (fun j v hv => by
  match j, hv with
  | 0, hv => exact hv
  | 1, hv => exact hv
  | 2, hv => exact hv
  | 3, hv => exact hv
  | 4, hv => exact hv
  | 5, hv => exact hv)
theorem OldB.alloc {W w : World} (h : OldB W w) (o : Obj) : OldB W (w.alloc o) := Below.alloc h (Below.size h) o
theorem lt_of_block' {z : World} {X : Obj} {p : Nat} (h : z.heap[p]? = some X) : p < z.heap.size := (Array.getElem?_eq_some_iff.1 h).1
theorem OldB.set {W w : World} (h : OldB W w) {p : Nat} (hp : W.heap.size ≤ p) (i : Nat) (v : Value) : OldB W (w.setCell ⟨p, i, none⟩ v) := Below.setCell h hp v
section
variable {P : Program} {ops : Array Oper} {Q : Exit → Act → World → Prop} {md : Region.Mode} {S : World → Prop}
theorem rdR (i : Nat) {o : Oper} {fuel : Nat} {listed : Array Bool} {a : Act} {w : World}
    (h : ∀ K' : Act → World → Prop, Shut (∀ a w, S w → (S w → wpAnyH P md ops Q S fuel (listed.setIfInBounds i true) a w) → K' a w) → Oper.wp P o a w K' Q)
    (hr : Region.ready md ops listed = [i] := by kernel_rfl) (ho : ops[i]? = some o := by rfl) (hw : Region.wanted o (yielded ops a.tmps) = true := by (first | rfl | (simp [Region.wanted, yielded]; done))) : wpAnyH P md ops Q S (fuel + 1) listed a w :=
  rdW i (fun K hK => by rw [if_pos hw]; exact h K hK) hr ho
end
theorem setCells_freshG {P : Program} (w : World) (T : TypeId) (z cs : List Value) (hi : (P.info? T).map (·.size) = some cs.toArray.size) (hz : z.length = cs.length) (h1 : cs.toArray.all (·.oneCell') = true) : (w.alloc (.cells z.toArray T)).setCells w.heap.size 0 cs = w.alloc (.cells cs.toArray T) := by
  have a := run_storeVar_new (P := P) w T z.toArray cs.toArray hi (by simp [hz]) h1
  have b := run_storeVar_mid (P := P) (w.alloc (.cells z.toArray T)) w.heap.size 0 T cs.toArray (there_of_row (heap_alloc_new w _) (by simp [hz])) hi h1
  rw [a] at b
  injection b with _ e
  exact e.symm
theorem own_baseG {w : World} {B B' size n : Nat} {e : TypeId} {v : Value} {xs : List Value} (hB : B' ≤ B) (h : w.ownsRow B e size v n xs) : w.ownsRow B' e size v n xs :=
  ⟨h.1, h.2.imp id (fun ⟨g, cap, cur, hv, hb, r⟩ => ⟨g, cap, cur, hv, Nat.le_trans hB hb, r⟩)⟩
theorem info_rec : (Tryz.prog.info? 56).map (fun i => (i.zero, i.size, i.bytes)) = some (some (.agg zRow.toArray), 21, 336) := by kernel_rfl
theorem rvsL_app (a b : List RV) : rvsL (a ++ b) = rvsL a ++ rvsL b := by unfold rvsL; rw [List.flatMap_append]
theorem rvsL_one (r : RV) : rvsL [r] = rvL r := by simp [rvsL]
theorem fill_recs (l : List RV) (cells : Array Value) (hs : cells.size = l.length * 21) : Instr.fill (fun i => some (i * 21, 21)) cells (((l.map rvA).zipIdx 0).map fun x => (x.2, x.1)) = some (rvsL l).toArray := by
  obtain ⟨r, hr, hsz, hk⟩ := Great.fill_dense (s := 21) (by decide) (l.map rvA) 0 cells (fun v hv => by obtain ⟨x, _, rfl⟩ := List.mem_map.1 hv; rfl) (by simp [hs])
  rw [hr]
  congr 1
  apply Array.ext_getElem?
  intro k
  rw [hk k]
  by_cases h : k < l.length * 21
  · rw [if_pos ⟨by omega, by simpa using h⟩]
    have hq : k / 21 < l.length := by omega
    have hm : k % 21 < (rvL l[k / 21]).length := by show k % 21 < 21; omega
    have e : k / 21 * 21 + k % 21 = k := by omega
    have := flat_get rvL 21 (fun _ => rfl) hq (i := k % 21) (List.getElem?_eq_getElem hm)
    rw [e] at this
    rw [Nat.sub_zero, List.getElem?_map, List.getElem?_eq_getElem hq]
    show (rvL l[k / 21]).toArray[k % 21]? = (rvsL l).toArray[k]?
    rw [List.getElem?_toArray, List.getElem?_toArray, List.getElem?_eq_getElem hm]
    exact this.symm
  · rw [if_neg (by simp; omega), Array.getElem?_eq_none (by omega), Array.getElem?_eq_none (by rw [List.size_toArray, rvsL_len]; omega)]
section
variable {o : Oper} {a : Act} {w : World} {Q : Exit → Act → World → Prop}
theorem wp_recs {K : Act → World → Prop} (l : List RV) (len : Nat) (parts : Array (Nat × Operand)) (ho : o.op = .buildSlice 22 len parts) (hl : l.length = len) (h0 : 0 < len) (h1 : len ≤ 1000)
    (hp : (parts.map fun (i, x) => (i, a.eval x)).toList = ((l.map rvA).zipIdx 0).map fun x => (x.2, x.1))
    (h : K (a.put o.dst (.slice (some ⟨w.heap.size, 0, none⟩) len len)) (w.alloc (.cells (rvsL l).toArray 56))) : o.wp Tryz.prog a w K Q := by
  obtain ⟨i, hi, hz, hsz, -⟩ := info_parts info_rec
  refine wp_buildSlice 22 56 len parts ho (rvsL l).toArray i _ Tryz.underlying22 hi hz (by rw [hsz]; omega) (by rw [hsz]; omega) ?_ h
  rw [hp, hsz]
  exact fill_recs l _ (by simp [hl])
theorem wpList_recs {ops : Array Oper} {rest : List Oper} (hg : o.guard = none) (l : List RV) (len : Nat) (parts : Array (Nat × Operand)) (ho : o.op = .buildSlice 22 len parts) (hl : l.length = len) (h0 : 0 < len) (h1 : len ≤ 1000)
    (hp : (parts.map fun (i, x) => (i, a.eval x)).toList = ((l.map rvA).zipIdx 0).map fun x => (x.2, x.1))
    (h : wpList Tryz.prog ops Q rest (a.put o.dst (.slice (some ⟨w.heap.size, 0, none⟩) len len)) (w.alloc (.cells (rvsL l).toArray 56))) : wpList Tryz.prog ops Q (o :: rest) a w :=
  wpList_plain hg fun _ hK => wp_recs l len parts ho hl h0 h1 hp (hK _ _ h)
end
end Go.Proofs.YtniklmikdkjgiaaGreatDoor
namespace Go.Proofs.YtniklmikdkjgiaaGreatDoor
open Go.RowKit
end Go.Proofs.YtniklmikdkjgiaaGreatDoor
