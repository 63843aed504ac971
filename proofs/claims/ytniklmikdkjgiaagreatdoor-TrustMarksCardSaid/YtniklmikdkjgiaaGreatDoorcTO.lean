import Derived.Test.YtniklmikdkjgiaaGreatDoorcLD
import Derived.Test.YtniklmikdkjgiaaGreatDoorcXK
import Derived.Test.YtniklmikdkjgiaaGreatDoorcXN
import Derived.Test.YtniklmikdkjgiaaGreatDoorcXO
import Derived.Test.YtniklmikdkjgiaaGreatDoorcXP
import Derived.Test.YtniklmikdkjgiaaGreatDoorcXR
import Derived.Test.YtniklmikdkjgiaaGreatDoorWD
set_option linter.all false
set_option maxHeartbeats 16000000
set_option maxRecDepth 100000
namespace Go.Proofs.YtniklmikdkjgiaaGreatDoor
open Go.RowKit
structure Sx where
  id : Tx
  st : Int
  by_ : Tx
  own : RV
  cur : RV
def stOf (o : Int) : Int := if o = 2 then 2 else if o = 4 then 3 else 1
def hasS (es : List Sx) (t : Tx) : Bool := es.any fun e => decide (e.id = t)
def obeyT (r : RV) (e : Sx) : Sx := if 1 ≤ r.order ∧ r.order ≤ 4 then ⟨e.id, stOf r.order, idC r.c, e.own, if r.order = 3 then r else e.own⟩ else e
def obeyS (r : RV) (e : Sx) : Sx := if e.id = r.target then obeyT r e else e
def newS (r : RV) : Sx := ⟨idC r.c, 1, [], r, r⟩
def stepS (ms : List Int) (es : List Sx) (r : RV) : List Sx :=
  if r.kind = 1 then (if hasS es (idC r.c) then es else es ++ [newS r])
  else if r.kind = 3 then (if inI ms r.author then es.map (obeyS r) else es)
  else es
def entS (ms : List Int) (l : List RV) : List Sx := l.foldl (stepS ms) []
theorem hasS_app (es : List Sx) (e : Sx) (t : Tx) : hasS (es ++ [e]) t = (hasS es t || decide (e.id = t)) := by simp [hasS]
theorem hasS_iff (es : List Sx) (t : Tx) : hasS es t = true ↔ ∃ e ∈ es, e.id = t := by simp [hasS]
theorem obeyT_id (r : RV) (e : Sx) : (obeyT r e).id = e.id := by unfold obeyT; split <;> rfl
theorem obeyS_id (r : RV) (e : Sx) : (obeyS r e).id = e.id := by unfold obeyS; split; exact obeyT_id r e; rfl
theorem entS_app (ms : List Int) (l : List RV) (r : RV) : entS ms (l ++ [r]) = stepS ms (entS ms l) r := by simp [entS, List.foldl_append]
theorem entS_take (ms : List Int) (l : List RV) {k : Nat} (h : k < l.length) : entS ms (l.take (k + 1)) = stepS ms (entS ms (l.take k)) l[k] := by
  rw [List.take_succ_eq_append_getElem h, entS_app]
theorem step_ids (ms : List Int) (es : List Sx) (r : RV) : (stepS ms es r).map (·.id) = es.map (·.id) ∨ (r.kind = 1 ∧ hasS es (idC r.c) = false ∧ (stepS ms es r).map (·.id) = es.map (·.id) ++ [idC r.c]) := by
  unfold stepS
  split
  · next h1 =>
    cases h : hasS es (idC r.c)
    · exact .inr ⟨h1, rfl, by simp [newS]⟩
    · exact .inl rfl
  split
  · split
    · left; rw [List.map_map]; apply List.map_congr_left; intro e _; exact obeyS_id r e
    · exact .inl rfl
  · exact .inl rfl
theorem nodup_snoc {α : Type} {l : List α} {a : α} (h : l.Nodup) (ha : a ∉ l) : (l ++ [a]).Nodup := by
  rw [List.nodup_append]
  refine ⟨h, by simp, ?_⟩
  intro x hx y hy e
  rw [List.mem_singleton.1 hy] at e
  subst e; exact ha hx
theorem step_nodup (ms : List Int) {es : List Sx} (r : RV) (h : (es.map (·.id)).Nodup) : ((stepS ms es r).map (·.id)).Nodup := by
  rcases step_ids ms es r with e | ⟨-, h1, e⟩
  · rw [e]; exact h
  · rw [e]
    refine nodup_snoc h (fun hm => ?_)
    obtain ⟨x, hx, e1⟩ := List.mem_map.1 hm
    have := (hasS_iff es (idC r.c)).2 ⟨x, hx, e1⟩
    rw [h1] at this; cases this
theorem step_mem {ms : List Int} {es : List Sx} {r : RV} {x : Sx} (h : x ∈ stepS ms es r) : (∃ y ∈ es, x.id = y.id ∧ x.own = y.own ∧ (x.cur = y.cur ∨ x.cur = r ∨ x.cur = y.own)) ∨ (r.kind = 1 ∧ x = newS r) := by
  unfold stepS at h
  split at h
  · next h1 =>
    split at h
    · exact .inl ⟨x, h, rfl, rfl, .inl rfl⟩
    · rcases List.mem_append.1 h with h | h
      · exact .inl ⟨x, h, rfl, rfl, .inl rfl⟩
      · exact .inr ⟨h1, List.mem_singleton.1 h⟩
  split at h
  · split at h
    · obtain ⟨y, hy, rfl⟩ := List.mem_map.1 h
      refine .inl ⟨y, hy, obeyS_id r y, ?_, ?_⟩
      · unfold obeyS obeyT; split <;> (try split) <;> rfl
      · unfold obeyS obeyT; split
        · split
          · dsimp only; split
            · exact .inr (.inl rfl)
            · exact .inr (.inr rfl)
          · exact .inl rfl
        · exact .inl rfl
    · exact .inl ⟨x, h, rfl, rfl, .inl rfl⟩
  · exact .inl ⟨x, h, rfl, rfl, .inl rfl⟩
structure FromS (l : List RV) (x : Sx) : Prop where
  own : x.own ∈ l
  cur : x.cur ∈ l
  kind : x.own.kind = 1
  id : x.id = idC x.own.c
theorem step_from {ms : List Int} {es : List Sx} {r : RV} {l : List RV} (h : ∀ x ∈ es, FromS l x) : ∀ x ∈ stepS ms es r, FromS (l ++ [r]) x := by
  intro x hx
  rcases step_mem hx with ⟨y, hy, e1, e2, e3⟩ | ⟨h1, rfl⟩
  · have f := h y hy
    refine ⟨by rw [e2]; exact List.mem_append_left _ f.own, ?_, by rw [e2]; exact f.kind, by rw [e1, e2]; exact f.id⟩
    rcases e3 with e | e | e
    · rw [e]; exact List.mem_append_left _ f.cur
    · rw [e]; simp
    · rw [e]; exact List.mem_append_left _ f.own
  · exact ⟨by simp [newS], by simp [newS], h1, rfl⟩
theorem foldS_from {ms : List Int} : ∀ (l : List RV) (es : List Sx) (m : List RV), (∀ x ∈ es, FromS m x) → ∀ x ∈ l.foldl (stepS ms) es, FromS (m ++ l) x
  | [], es, m, h => by simpa using h
  | r :: l, es, m, h => by
    have := foldS_from (ms := ms) l (stepS ms es r) (m ++ [r]) (step_from h)
    simpa using this
theorem entS_from (ms : List Int) (l : List RV) : ∀ x ∈ entS ms l, FromS l x := by
  have := foldS_from (ms := ms) l [] [] (by simp)
  rw [List.nil_append] at this
  exact this
theorem foldS_nodup {ms : List Int} : ∀ (l : List RV) (es : List Sx), (es.map (·.id)).Nodup → ((l.foldl (stepS ms) es).map (·.id)).Nodup
  | [], _, h => h
  | r :: l, _, h => foldS_nodup l _ (step_nodup ms r h)
theorem entS_nodup (ms : List Int) (l : List RV) : ((entS ms l).map (·.id)).Nodup := foldS_nodup l [] List.nodup_nil
theorem step_len (ms : List Int) (es : List Sx) (r : RV) : (stepS ms es r).length ≤ es.length + 1 := by
  unfold stepS
  repeat' split
  all_goals simp
theorem entS_len (ms : List Int) : ∀ (l : List RV), (entS ms l).length ≤ l.length := by
  have g : ∀ (l : List RV) (es : List Sx), (l.foldl (stepS ms) es).length ≤ es.length + l.length := by
    intro l
    induction l with
    | nil => intro es; exact Nat.le_refl _
    | cons r l ih => intro es; have := ih (stepS ms es r); have := step_len ms es r; simp only [List.foldl_cons, List.length_cons] at *; omega
  intro l
  have := g l []
  rw [List.length_nil, Nat.zero_add] at this
  exact this
theorem map_self {es : List Sx} {r : RV} (h : hasS es r.target = false) : es.map (obeyS r) = es := by
  have : es.map (obeyS r) = es.map id := by
    apply List.map_congr_left
    intro e he
    unfold obeyS
    rw [if_neg (fun e1 => ?_)]; rfl
    have := (hasS_iff es r.target).2 ⟨e, he, e1⟩
    rw [h] at this; cases this
  rw [this, List.map_id]
end Go.Proofs.YtniklmikdkjgiaaGreatDoor
namespace Go.Proofs.YtniklmikdkjgiaaGreatDoor
open Go.RowKit Go.ChangeShapes Go.WideShapes Go.Deep
def AnySl (v : Value) : Prop := ∃ A n c, v = .slice A n c
structure WoV where
  st : Value
  keys : List Tx
  kv : Value
  mods : List Int
  mv : Value
  need : Int
  vv : Value
  rv : Value
def woL (x : WoV) : List Value := [x.st, x.kv, x.mv, .int .i64 x.need, x.vv, x.rv]
def woA (x : WoV) : Value := .agg (woL x).toArray
structure WoIs (w : World) (x : WoV) : Prop where
  st : AnySl x.st
  ks : SlIs w x.kv x.keys.length (strsC x.keys)
  ms : SlIs w x.mv x.mods.length (intsL x.mods)
  vv : AnySl x.vv
  rv : AnySl x.rv
  kz : ∀ s ∈ x.keys, s.length ≤ 9223372036854775807
  kl : x.keys.length ≤ 9223372036854775807
  ml : x.mods.length ≤ 9223372036854775807
theorem WoIs.below {w w' : World} {x : WoV} (h : WoIs w x) (hb : Below w.heap.size w w') : WoIs w' x := ⟨h.st, h.ks.below hb, h.ms.below hb, h.vv, h.rv, h.kz, h.kl, h.ml⟩
section
variable {H : Type} {enc : TypeId × Value → H} {w : World} {base : Nat} {held : Bool}
theorem sl_any {t e : TypeId} (ht : Tryz.prog.underlying t = some (.slice e)) {fuel : Nat} {v : Value} {x : DataW H × List MemPlace} (h : DataW.trod enc Tryz.prog w base (fun _ => true) held fuel t [v] = some x) : AnySl v := by
  rcases open_slice ht h with ⟨hcs, rfl⟩ | ⟨a, len, cap, m, n, D, Pl, hcs, -⟩
  · cases hcs; exact ⟨_, _, _, rfl⟩
  · cases hcs; exact ⟨_, _, _, rfl⟩
theorem ints_flat (l : List Int) : (l.flatMap fun s => [Value.int .i64 s]) = intsL l := by
  induction l with
  | nil => rfl
  | cons x l ih => rw [List.flatMap_cons, ih]; rfl
theorem ints_open {fuel : Nat} {v : Value} {x : DataW H × List MemPlace} (h : DataW.trod enc Tryz.prog w base (fun _ => true) held fuel 26 [v] = some x) (hw : Wt 26 x.1) : ∃ l : List Int, SlIs w v l.length (intsL l) ∧ l.length ≤ 9223372036854775807 := by
  obtain ⟨A, c, l, rfl, h0, h3, h1, -⟩ := slice_open (fun s : Int => [.int .i64 s]) (fun _ => True) 1 (by decide) (fun _ => rfl) 0 Tryz.underlying26 (by kernel_rfl) (fun _ _ _ h _ => by obtain ⟨s, e, _⟩ := DataW.trod_int Tryz.underlying3 h; exact ⟨s, e, trivial⟩) h hw
  rw [ints_flat] at h1
  exact ⟨l, ⟨A, c, rfl, h1⟩, Nat.le_trans h0 (by simpa [maxLen] using h3)⟩
theorem strs_openZ {fuel : Nat} {v : Value} {x : DataW H × List MemPlace} (h : DataW.trod enc Tryz.prog w base (fun _ => true) held fuel 35 [v] = some x) (hw : Wt 35 x.1) : ∃ l : List Tx, SlIs w v l.length (strsC l) ∧ (∀ s ∈ l, s.length ≤ 9223372036854775807) ∧ l.length ≤ 9223372036854775807 := by
  obtain ⟨A, c, l, rfl, h0, h3, h1, h2⟩ := slice_open (fun s : Tx => [.string (mkB s)]) (fun s => s.length ≤ 9223372036854775807) 1 (by decide) (fun _ => rfl) [] Tryz.underlying35 (by kernel_rfl) (fun _ _ _ h _ => str_open h) h hw
  rw [strs_flat] at h1
  exact ⟨l, ⟨A, c, rfl, h1⟩, h2, Nat.le_trans h0 (by simpa [maxLen] using h3)⟩
theorem world_openC {fuel : Nat} {cs : List Value} {x : DataW H × List MemPlace} (h : DataW.trod enc Tryz.prog w base (fun _ => true) held fuel 38 cs = some x) (hw : Wt 38 x.1) : ∃ o : WoV, cs = woL o ∧ WoIs w o := by
  obtain ⟨ys, n, _, rfl, hl, hyl, hf⟩ := DataW.trod_struct Tryz.underlying38 h
  have hc : Tryz.prog.cellsOf 38 = 6 := by kernel_rfl
  have hm : Tryz.prog.cellsOf 34 = 1 := by kernel_rfl
  have ho : Tryz.prog.cellsOf 32 = 1 := by kernel_rfl
  have hs : Tryz.prog.cellsOf 35 = 1 := by kernel_rfl
  have hi : Tryz.prog.cellsOf 3 = 1 := by kernel_rfl
  have hj : Tryz.prog.cellsOf 26 = 1 := by kernel_rfl
  have hr : Tryz.prog.cellsOf 36 = 1 := by kernel_rfl
  rw [hc] at hl
  match cs, hl, ys, hyl with
  | [c0, c1, c2, c3, c4, c5], _, [y0, y1, y2, y3, y4, y5], _ =>
    have h0 := hf 0 _ rfl
    have h1 := hf 1 _ rfl
    have h2 := hf 2 _ rfl
    have h3 := hf 3 _ rfl
    have h4 := hf 4 _ rfl
    have h5 := hf 5 _ rfl
    simp only [hm, hs, hi, hj, hr, List.drop_zero, List.take_succ_cons, List.take_zero, List.drop_succ_cons, List.getElem?_cons_zero, List.getElem?_cons_succ] at h0 h1 h2 h3 h4 h5
    obtain ⟨zs, m, _, e0, hl2, hzl, hf2⟩ := DataW.trod_struct Tryz.underlying34 h0
    match zs, hzl with
    | [z0], _ =>
      have k0 := hf2 0 _ rfl
      simp only [ho, List.drop_zero, List.take_succ_cons, List.take_zero, List.drop_succ_cons, List.getElem?_cons_zero, List.getElem?_cons_succ] at k0
      have a0 := sl_any Tryz.underlying32 k0
      obtain ⟨ks, r1, r1z, r1l⟩ := strs_openZ h1 (wt_field Tryz.underlying38 hw (j := 1) rfl rfl)
      obtain ⟨ms, r2, r2l⟩ := ints_open h2 (wt_field Tryz.underlying38 hw (j := 2) rfl rfl)
      obtain ⟨nd, e3, _, _⟩ := DataW.trod_int Tryz.underlying3 h3
      have a4 := sl_any Tryz.underlying35 h4
      have a5 := sl_any Tryz.underlying36 h5
      cases e3
      exact ⟨⟨c0, ks, c1, ms, c2, nd, c4, c5⟩, rfl, a0, r1, r2, a4, a5, r1z, r1l, r2l⟩
theorem world_open {r : Reach} {b0 : Nat} {v : Value} {d : DataW H} {p : List MemPlace} (hv : Value.okWide Tryz.prog w r b0 38 v) (h : DataW.Trod enc Tryz.prog w base (fun _ => true) held 38 v d p) (hw : Wt 38 d) :
    ∃ o : WoV, v = woA o ∧ WoIs w o := by
  obtain ⟨cs, rfl, hcs⟩ := okWide_struct Tryz.underlying38 hv
  obtain ⟨fuel, hf⟩ := h
  obtain ⟨o, e, h1⟩ := world_openC hf hw
  have e2 : cs = (woL o).toArray := by simpa [Value.cells] using congrArg List.toArray e
  exact ⟨o, by rw [e2]; rfl, h1⟩
end
end Go.Proofs.YtniklmikdkjgiaaGreatDoor
namespace Go.Proofs.YtniklmikdkjgiaaGreatDoor
open Go.RowKit
def okO (o : Int) : Bool := decide (1 ≤ o) && decide (o ≤ 4)
theorem stateOf_any (o : Int) (w : World) :
    Calls Tryz.prog 131 #[.int .i64 o] w fun e w' => e = .returned (.tuple #[.int .i64 (if okO o then stOf o else 0), .bool (okO o)]) ∧ Below w.heap.size w w' := by
  obtain ⟨X, hX⟩ : ∃ X, X = w.alloc (.cells #[.int .i64 0, .int .i64 1, .int .i64 2, .int .i64 1, .int .i64 3] 205) := ⟨_, rfl⟩
  have BX : Hid (Below w.heap.size w X) := Lib.hid (by rw [hX]; exact (Below.refl _ _).alloc (Nat.le_refl _) _)
  have XX := Lib.hid (show X.heap[w.heap.size]? = some (.cells #[.int .i64 0, .int .i64 1, .int .i64 2, .int .i64 1, .int .i64 3] 205 (0, 0)) by rw [hX]; exact heap_alloc_new w _)
  have HX := Lib.hid hX
  clear hX
  by_cases h1 : o < 1
  · have PM : Hid (okO o = false) := Lib.hid (by unfold okO; rw [decide_eq_false (by omega)]; rfl)
    rw [PM.out]
    go_enter Tryz.func131, Tryz.ntmps131
    go_wp2_with fail
    rw [← HX.out]
    go_ret2
    exact ⟨rfl, BX.out⟩
  by_cases h5 : 5 ≤ o
  · have PM : Hid (okO o = false) := Lib.hid (by unfold okO; rw [decide_eq_false (p := o ≤ 4) (by omega), Bool.and_false])
    rw [PM.out]
    go_enter Tryz.func131, Tryz.ntmps131
    go_wp2_with fail
    rw [← HX.out]
    go_ret2
    exact ⟨rfl, BX.out⟩
  have c1 := load_block (i := 1) XX.out rfl
  have c2 := load_block (i := 2) XX.out rfl
  have c3 := load_block (i := 3) XX.out rfl
  have c4 := load_block (i := 4) XX.out rfl
  obtain rfl | rfl | rfl | rfl : o = 1 ∨ o = 2 ∨ o = 3 ∨ o = 4 := by omega
  all_goals
    clear h1 h5
    go_enter Tryz.func131, Tryz.ntmps131
    go_upto_region 2 with fail
    rw [← HX.out]
    go_wp2_with fail
    go_ret2
    exact ⟨rfl, BX.out⟩
def enRow (e : Sx) : Array Value := #[e.own.edv, .string (mkB e.id), .int .i64 e.st, .string (mkB e.by_), e.cur.edv]
structure EnB (bx : Nat) (W : World) (own idv : Value) (u : World) : Prop where
  row : ∃ a b c, u.heap[bx]? = some (.cells #[own, idv, a, b, c] 100 (0, 0))
  but : But (· = bx) W u
theorem EnB.drew {bx : Nat} {W : World} {a b : Value} {u : World} (h : EnB bx W a b u) : EnB bx W a b u.drew := ⟨h.row, h.but.drew⟩
theorem EnB.lt {bx : Nat} {W : World} {a b : Value} {u : World} (h : EnB bx W a b u) : bx < u.heap.size := by obtain ⟨_, _, _, h⟩ := h.row; exact lt_of_block h
theorem EnB.call {bx : Nat} {W : World} {a b : Value} {u u' : World} (h : EnB bx W a b u) (k : Below u.heap.size u u') : EnB bx W a b u' := by
  obtain ⟨x, y, z, hr⟩ := h.row
  exact ⟨⟨x, y, z, (k.block bx (lt_of_block hr)).trans hr⟩, h.but.trans (But.of_below k)⟩
theorem EnB.own {bx : Nat} {W : World} {a b : Value} {u : World} (h : EnB bx W a b u) : u.cell? ⟨bx, 0, none⟩ = some a := by
  obtain ⟨x, y, z, hr⟩ := h.row
  exact load_block (i := 0) hr rfl
theorem EnB.set2 {bx : Nat} {W : World} {a b : Value} {u : World} (h : EnB bx W a b u) (v : Value) : EnB bx W a b (u.setCell ⟨bx, 2, none⟩ v) := by
  obtain ⟨x, y, z, hr⟩ := h.row
  exact ⟨⟨v, y, z, row_put8 (k := 2) hr v⟩, But.set (p := ⟨bx, 2, none⟩) h.but rfl v⟩
theorem EnB.set3 {bx : Nat} {W : World} {a b : Value} {u : World} (h : EnB bx W a b u) (v : Value) : EnB bx W a b (u.setCell ⟨bx, 3, none⟩ v) := by
  obtain ⟨x, y, z, hr⟩ := h.row
  exact ⟨⟨x, v, z, row_put8 (k := 3) hr v⟩, But.set (p := ⟨bx, 3, none⟩) h.but rfl v⟩
theorem EnB.set4 {bx : Nat} {W : World} {a b : Value} {u : World} (h : EnB bx W a b u) (v : Value) : EnB bx W a b (u.setCell ⟨bx, 4, none⟩ v) := by
  obtain ⟨x, y, z, hr⟩ := h.row
  exact ⟨⟨x, y, v, row_put8 (k := 4) hr v⟩, But.set (p := ⟨bx, 4, none⟩) h.but rfl v⟩
theorem mrec_szL (r : RV) : (Tryz.prog.info? 56).map (·.size) = some (rvL r).length := by kernel_rfl
theorem mrec_szA (r : RV) : (Tryz.prog.info? 56).map (·.size) = some (rvL r).toArray.size := by kernel_rfl
theorem en_norm {u : World} {g : Nat} {a b c d e x y z : Value} (h : u.heap[g]? = some (.cells (((#[a, b, c, d, e].setIfInBounds 2 x).setIfInBounds 3 y).setIfInBounds 4 z) 100 (0, 0))) : u.heap[g]? = some (.cells #[a, b, x, y, z] 100 (0, 0)) := h
theorem en_norm4 {u : World} {g : Nat} {a b c d e z : Value} (h : u.heap[g]? = some (.cells (#[a, b, c, d, e].setIfInBounds 4 z) 100 (0, 0))) : u.heap[g]? = some (.cells #[a, b, c, d, z] 100 (0, 0)) := h
structure EnP (bx : Nat) (e : Sx) (r : RV) (w w' : World) : Prop where
  row : w'.heap[bx]? = some (.cells (enRow (obeyT r e)) 100 (0, 0))
  but : But (· = bx) w w'
theorem obeyT_no {r : RV} (h : okO r.order = false) (e : Sx) : obeyT r e = e := by
  unfold obeyT
  rw [if_neg]
  intro hh
  unfold okO at h
  rw [decide_eq_true hh.1, decide_eq_true hh.2] at h
  cases h
theorem obeyT_yes {r : RV} (h : okO r.order = true) (e : Sx) : obeyT r e = ⟨e.id, stOf r.order, idC r.c, e.own, if r.order = 3 then r else e.own⟩ := by
  unfold obeyT
  rw [if_pos]
  unfold okO at h
  simpa using h
theorem obey_any (w0 : World) (bx : Nat) (e : Sx) (r : RV) (w : World) (hw : Below w0.heap.size w0 w) (hx : w0.heap.size ≤ bx) (hb : w.heap[bx]? = some (.cells (enRow e) 100 (0, 0))) (h : RvIs w0 r) (hs : RcSz r.c) (ht : Tab w0) (ho : AnySl e.own.edv) :
    Calls Tryz.prog 104 #[.pointer (some ⟨bx, 0, none⟩), rvA r] w fun en w' => en = .returned (.tuple #[]) ∧ EnP bx e r w w' := by
  have lb := lt_of_block hb
  obtain ⟨Ao, no, co, eo⟩ := ho
  unfold rvA
  obtain ⟨W, hW⟩ : ∃ W, W = w.alloc (.cells (rvL r).toArray 56) := ⟨_, rfl⟩
  obtain ⟨br, hbr⟩ : ∃ br, w.heap.size = br := ⟨_, rfl⟩
  have BW : Below w.heap.size w W := by rw [hW]; exact (Below.refl _ _).alloc (Nat.le_refl _) _
  have HX : W.heap[br]? = some (.cells (rvL r).toArray 56 (0, 0)) := by rw [hW, ← hbr]; exact heap_alloc_new w _
  have NE : br ≠ bx := by omega
  have EW : W.heap[bx]? = some (.cells (enRow e) 100 (0, 0)) := (BW.block bx lb).trans hb
  unfold enRow at EW
  rw [eo] at EW
  have EN0 : EnB bx W (.slice Ao no co) (.string (mkB e.id)) W := ⟨⟨_, _, _, EW⟩, But.refl _ _⟩
  have RX : Hid (∀ u, EnB bx W (.slice Ao no co) (.string (mkB e.id)) u → u.rangeAt br 0 (rvL r)) := Lib.hid (fun u hu => by have := range_of_row ((hu.but.block br (lt_of_block HX) NE).trans HX); simpa using this)
  have o9 : ∀ u, EnB bx W (.slice Ao no co) (.string (mkB e.id)) u → u.cell? ⟨br, 9, none⟩ = some (.int .i64 r.order) := fun u hu => by have := RX.out u hu 9 _ rfl; simpa using this
  have o6 : ∀ u, EnB bx W (.slice Ao no co) (.string (mkB e.id)) u → u.cell? ⟨br, 6, none⟩ = some r.edv := fun u hu => by have := RX.out u hu 6 _ rfl; simpa using this
  have oo : ∀ u, EnB bx W (.slice Ao no co) (.string (mkB e.id)) u → u.cell? ⟨bx, 0, none⟩ = some (.slice Ao no co) := fun u hu => hu.own
  have BZ := BW.size
  have KB : Hid (∀ u, EnB bx W (.slice Ao no co) (.string (mkB e.id)) u → Below w0.heap.size w0 u) := Lib.hid (fun u hu => (hw.trans (BW.mono hw.size)).trans (hu.but.below (Nat.le_trans hw.size BZ) (fun k hk => by rw [hk]; exact hx)))
  have IDC : Hid (∀ u, EnB bx W (.slice Ao no co) (.string (mkB e.id)) u → Calls Tryz.prog 37 #[rvA r] u fun e w' => e = .returned (.string (mkB (idC r.c))) ∧ Below u.heap.size u w') := Lib.hid (fun u hu => id_any r u (h.below (KB.out u hu)) hs (ht.keep (KB.out u hu)))
  have FIN : Hid (∀ u (a b c : Value), But (· = bx) W u → u.heap[bx]? = some (.cells #[(.slice Ao no co), .string (mkB e.id), a, b, c] 100 (0, 0)) → #[(.slice Ao no co), .string (mkB e.id), a, b, c] = enRow (obeyT r e) → EnP bx e r w u) := Lib.hid (fun u a b c hb1 hb2 hb3 => ⟨by rw [← hb3]; exact hb2, (But.of_below BW).trans hb1⟩)
  have SO := Lib.hid (stateOf_any r.order)
  have EDH : Hid (∃ A c, r.edv = .slice A r.edits.length c) := Lib.hid (by obtain ⟨A, c, e1, -⟩ := h.ed; exact ⟨A, c, e1⟩)
  have E := Lib.hid EW
  have EN := Lib.hid EN0
  unfold rvA at IDC
  have EO := Lib.hid eo
  clear eo
  have X0 := Lib.hid hW
  have X1 := Lib.hid hbr
  clear h hs ht hb lb EW hw hx BZ NE hW hbr HX BW
  go_enter Tryz.func104, Tryz.ntmps104
  go_upto_region 1 with fail
  rw [← X0.out, X1.out]
  clear X0 X1
  have o9W := o9 W EN0
  clear EN0
  go_wp2_with fail
  (with_reducible refine (SO.out W).mono ?_)
  rintro en u1 ⟨rfl, b1⟩
  have E := Lib.hid ((b1.block bx EN.out.lt).trans E.out)
  have EN := Lib.hid (EN.out.call b1)
  clear b1 SO o9W
  cases hq : okO r.order
  · have PE : Hid (#[(.slice Ao no co), .string (mkB e.id), .int .i64 e.st, .string (mkB e.by_), e.cur.edv] = enRow (obeyT r e)) := Lib.hid (by rw [obeyT_no hq]; unfold enRow; rw [EO.out])
    have FF := Lib.hid (FIN.out u1 _ _ _ EN.out.but E.out PE.out)
    go_wp2_with fail
    refine bodyPost_ret (results_none (by rfl) _ _ _) rfl ?_
    exact ⟨rfl, FF.out⟩
  have PE : Hid (obeyT r e = ⟨e.id, stOf r.order, idC r.c, e.own, if r.order = 3 then r else e.own⟩) := Lib.hid (obeyT_yes hq e)
  rw [if_pos rfl]
  clear hq
  obtain ⟨st, hst⟩ : ∃ st, stOf r.order = st := ⟨_, rfl⟩
  obtain ⟨idv, hidv⟩ : ∃ idv, mkB (idC r.c) = idv := ⟨_, rfl⟩
  have SI := Lib.hid (And.intro hst hidv)
  rw [hst]
  rw [hidv] at IDC
  clear hst hidv
  go_upto_region 3 with fail
  (refine wp_region_noPanic ?_; refine wp_region_held_drew (S := (EnB bx W (.slice Ao no co) (.string (mkB e.id)))) (by kernel_rfl) ?_ (fun hHeld => ?_); exact EnB.drew EN.out)
  have E : Hid (u1.drew.heap[bx]? = _) := E
  generalize u1.drew = ud at *
  clear EN
  (refine tkW 0 ?_; try simp only [gmS])
  (refine tkW 1 ?_; try simp only [gmS])
  (refine tkW 2 ?_; try simp only [gmS])
  (refine tkW 3 ?_; try simp only [gmS])
  (refine ldW 4 56 (.tmp 3) br 0 (rvL r) _ RX.out Tryz.underlying56 (mrec_szL _) ?_; try simp only [gmS])
  (refine tkW 6 ?_; try simp only [gmS])
  (refine tkW 7 ?_; try simp only [gmS])
  (refine tkW 8 ?_; try simp only [gmS])
  (refine tkW 9 ?_; try simp only [gmS])
  refine rdR 5 (fun K hK => ?_)
  go_simp
  (with_reducible refine (IDC.out _ hHeld).mono ?_)
  rintro en u2 ⟨rfl, d2⟩
  have E := Lib.hid ((d2.block bx hHeld.lt).trans E.out)
  (refine hK.out _ _ (EnB.call hHeld d2) (fun hHeld2 => ?_); clear hK K hHeld; have hHeld := hHeld2; clear hHeld2; try simp only [gmS])
  (refine tkW 10 ?_; try simp only [gmS])
  (refine tkW 11 ?_; try simp only [gmS])
  (refine tkW 12 ?_; try simp only [gmS])
  have t2 := cell_of_row _ bx 2 _ _ _ E.out
  simp at t2
  have f2 := free_blk E.out 2
  (refine rdW 13 (fun K hK => ?_))
  go_simp
  have E := Lib.hid (row_put8 (g := bx) (k := 2) (E.out) (.int .i64 st))
  (refine hK.out _ _ (EnB.set2 hHeld (.int .i64 st)) (fun hHeld2 => ?_); clear hK K hHeld; have hHeld := hHeld2; clear hHeld2; try simp only [gmS])
  clear t2 f2
  (refine tkW 14 ?_; try simp only [gmS])
  (refine tkW 15 ?_; try simp only [gmS])
  (refine tkW 16 ?_; try simp only [gmS])
  have t3 := cell_of_row _ bx 3 _ _ _ E.out
  simp at t3
  have f3 := free_blk E.out 3
  (refine rdW 17 (fun K hK => ?_))
  go_simp
  have E := Lib.hid (row_put8 (g := bx) (k := 3) (E.out) (.string idv))
  (refine hK.out _ _ (EnB.set3 hHeld (.string idv)) (fun hHeld2 => ?_); clear hK K hHeld; have hHeld := hHeld2; clear hHeld2; try simp only [gmS])
  clear t3 f3
  (refine tkW 18 ?_; try simp only [gmS])
  (refine tkW 19 ?_; try simp only [gmS])
  (refine tkW 20 ?_; try simp only [gmS])
  have t4 := cell_of_row _ bx 4 _ _ _ E.out
  simp at t4
  have f4 := free_blk E.out 4
  (refine rdW 21 (fun K hK => ?_))
  go_simp
  have E := Lib.hid (row_put8 (g := bx) (k := 4) (E.out) (.slice Ao no co))
  (refine hK.out _ _ (EnB.set4 hHeld ((.slice Ao no co))) (fun hHeld2 => ?_); clear hK K hHeld; have hHeld := hHeld2; clear hHeld2; try simp only [gmS])
  clear t4 f4
  have EN := Lib.hid hHeld
  have E := Lib.hid (en_norm E.out)
  (refine wpAnyH_done (by kernel_rfl) ?_ _; refine NoPanic.normal ?_)
  clear hHeld
  have o9u := o9 _ EN.out
  by_cases h3 : r.order = 3
  · have g3 : (r.order == 3) = true := by rw [h3]; rfl
    obtain ⟨Ae, ce, ve⟩ := EDH.out
    have o6u := o6 _ EN.out
    rw [ve] at o6u
    have PR : Hid (#[.slice Ao no co, .string (mkB e.id), .int .i64 st, .string idv, .slice Ae r.edits.length ce] = enRow (obeyT r e)) := Lib.hid (by rw [PE.out, if_pos h3]; unfold enRow; dsimp only; rw [EO.out, ve, SI.out.1, SI.out.2])
    have t4 := cell_of_row _ bx 4 _ _ _ E.out
    have f4 := free_blk E.out 4
    simp at t4
    have FF := Lib.hid (FIN.out _ _ _ _ (EnB.set4 EN.out (.slice Ae r.edits.length ce)).but (en_norm4 (row_put8 (g := bx) (k := 4) E.out (.slice Ae r.edits.length ce))) PR.out)
    clear h3 o9 o6 oo
    go_wp2_with fail
    refine bodyPost_end (results_none (by rfl) _ _ _) rfl ?_
    exact ⟨rfl, FF.out⟩
  · have g3 : (r.order == 3) = false := by simpa using h3
    have PR : Hid (#[.slice Ao no co, .string (mkB e.id), .int .i64 st, .string idv, .slice Ao no co] = enRow (obeyT r e)) := Lib.hid (by rw [PE.out, if_neg h3]; unfold enRow; dsimp only; rw [EO.out, SI.out.1, SI.out.2])
    have FF := Lib.hid (FIN.out _ _ _ _ EN.out.but E.out PR.out)
    clear h3 o9 o6 oo
    go_wp2_with fail
    refine bodyPost_end (results_none (by rfl) _ _ _) rfl ?_
    exact ⟨rfl, FF.out⟩
end Go.Proofs.YtniklmikdkjgiaaGreatDoor
namespace Go.Proofs.YtniklmikdkjgiaaGreatDoor
open Go.RowKit
theorem zPtr (w : World) : (zeroValue 98).run Tryz.prog w = .ok (.pointer none) w := by kernel_rfl
theorem info_ptr : (Tryz.prog.info? 98).map (fun i => (i.zero, i.size, i.bytes)) = some (some (.pointer none), 1, 8) := by kernel_rfl
def pv (q : Sx × Nat) : Value := .pointer (some ⟨q.2, 0, none⟩)
def findE (L : List (Sx × Nat)) (t : Tx) : Option (Sx × Nat) := L.find? fun q => decide (q.1.id = t)
def ptrM (L : List (Sx × Nat)) : Lit → Option Value
  | .string t => (findE L t).map pv
  | _ => none
theorem findE_no {L : List (Sx × Nat)} {t : Tx} (h : findE L t = none) : hasS (L.map (·.1)) t = false := by
  unfold findE at h
  rw [List.find?_eq_none] at h
  cases hh : hasS (L.map (·.1)) t
  · rfl
  · obtain ⟨e, he, e1⟩ := (hasS_iff _ _).1 hh
    obtain ⟨q, hq, rfl⟩ := List.mem_map.1 he
    exact absurd e1 (by simpa using h q hq)
theorem findE_yes {L : List (Sx × Nat)} {t : Tx} {q : Sx × Nat} (h : findE L t = some q) : q ∈ L ∧ q.1.id = t := by
  unfold findE at h
  exact ⟨List.mem_of_find?_eq_some h, by simpa using List.find?_some h⟩
theorem findE_has {L : List (Sx × Nat)} {t : Tx} {q : Sx × Nat} (h : findE L t = some q) : hasS (L.map (·.1)) t = true := by
  obtain ⟨h1, h2⟩ := findE_yes h
  exact (hasS_iff _ _).2 ⟨q.1, List.mem_map.2 ⟨q, h1, rfl⟩, h2⟩
theorem ptrM_add (L : List (Sx × Nat)) (q : Sx × Nat) (h : findE L q.1.id = none) : updM (ptrM L) (.string q.1.id) (pv q) = ptrM (L ++ [q]) := by
  funext x
  unfold updM
  by_cases e : x = .string q.1.id
  · subst e
    rw [if_pos (by rw [same_str]; simp)]
    show some (pv q) = (findE (L ++ [q]) q.1.id).map pv
    unfold findE at h ⊢
    rw [List.find?_append, h]
    simp
  · rw [if_neg (by rw [Maps.sameKey_ne e]; simp)]
    cases x with
    | string s =>
      have hs : q.1.id ≠ s := fun h => e (by rw [h])
      show (findE L s).map pv = (findE (L ++ [q]) s).map pv
      unfold findE
      rw [List.find?_append]
      simp [hs]
    | _ => rfl
theorem findE_map (f : Sx → Sx) (hf : ∀ e, (f e).id = e.id) (t : Tx) : ∀ L : List (Sx × Nat), (findE (L.map fun q => (f q.1, q.2)) t).map pv = (findE L t).map pv
  | [] => rfl
  | q :: L => by
    have ih := findE_map f hf t L
    unfold findE at ih ⊢
    rw [List.map_cons, List.find?_cons, List.find?_cons]
    dsimp only
    rw [hf]
    split
    · rfl
    · exact ih
theorem ptrM_map (f : Sx → Sx) (hf : ∀ e, (f e).id = e.id) (L : List (Sx × Nat)) : ptrM (L.map fun q => (f q.1, q.2)) = ptrM L := by
  funext x
  cases x with
  | string s => exact findE_map f hf s L
  | _ => rfl
theorem nodup_inj {α β : Type} {f : α → β} : ∀ {L : List α}, (L.map f).Nodup → ∀ {a b : α}, a ∈ L → b ∈ L → f a = f b → a = b
  | [], _, _, _, ha, _, _ => by cases ha
  | x :: L, h, a, b, ha, hb, e => by
    rw [List.map_cons, List.nodup_cons] at h
    rcases List.mem_cons.1 ha with rfl | ha'
    · rcases List.mem_cons.1 hb with rfl | hb'
      · rfl
      · exact absurd (List.mem_map.2 ⟨b, hb', e.symm⟩) h.1
    · rcases List.mem_cons.1 hb with rfl | hb'
      · exact absurd (List.mem_map.2 ⟨a, ha', e⟩) h.1
      · exact nodup_inj h.2 ha' hb' e
theorem map_blk {w : World} {P : Program} {k : TypeId} {b n : Nat} {M : Lit → Option Value} (h : MapAt w P k b M n) : ∃ es clock, w.heap[b]? = some (.map es clock) := by
  obtain ⟨D, ⟨es, clock, h0, -⟩, -⟩ := h
  exact ⟨es, clock, h0⟩
theorem own_cells {w : World} {B size n : Nat} {e : TypeId} {v : Value} {xs : List Value} (h : w.ownsRow B e size v n xs) {g : Nat} (hg : v.ownBlock = some g) : B ≤ g ∧ ∃ cur, w.heap[g]? = some (.cells cur e (0, 0)) := by
  rcases h.2 with ⟨rfl, -⟩ | ⟨g', cap, cur, rfl, h1, h2, -⟩
  · cases hg
  · injection hg with hg
    subst hg
    exact ⟨h1, cur, h2⟩
structure EnI (w0 w : World) (bm : Nat) (L : List (Sx × Nat)) (v : Value) (nk : Nat) : Prop where
  bel : Below w0.heap.size w0 w
  mp : MapAt w Tryz.prog 9 bm (ptrM L) nk
  bmb : w0.heap.size ≤ bm
  box : ∀ q ∈ L, w.heap[q.2]? = some (.cells (enRow q.1) 100 (0, 0))
  big : ∀ q ∈ L, w0.heap.size ≤ q.2
  own : w.ownsRow w0.heap.size 98 1 v L.length (L.map pv)
  nd : (L.map (·.1.id)).Nodup
  nd2 : (L.map (·.2)).Nodup
  nk : nk ≤ L.length
theorem EnI.call {w0 w u : World} {bm : Nat} {L : List (Sx × Nat)} {v : Value} {nk : Nat} (h : EnI w0 w bm L v nk) (k : Below w.heap.size w u) : EnI w0 u bm L v nk :=
  ⟨h.bel.trans (k.mono h.bel.size), h.mp.same (k.block bm h.mp.lt), h.bmb, fun q hq => (k.block q.2 (lt_of_block (h.box q hq))).trans (h.box q hq), h.big, own_below h.own k (Nat.le_refl _), h.nd, h.nd2, h.nk⟩
theorem EnI.map7 {w0 u w7 : World} {bm : Nat} {L : List (Sx × Nat)} {v : Value} {nk : Nat} (h : EnI w0 u bm L v nk) {o : Obj} (hg : (u.alloc o).grownBy w7 v.ownBlock) : MapAt w7 Tryz.prog 9 bm (ptrM L) nk := by
  obtain ⟨es, clock, hmb⟩ := map_blk h.mp
  refine h.mp.same ((hg.block bm (by have := h.mp.lt; simp; omega) (fun e1 => ?_)).trans (alloc_old _ _ h.mp.lt))
  obtain ⟨-, cur, hcur⟩ := own_cells h.own e1.symm
  rw [hmb] at hcur; cases hcur
theorem EnI.add {w0 u w7 w8 : World} {bm : Nat} {L : List (Sx × Nat)} {v v7 : Value} {nk nk' : Nat} (h : EnI w0 u bm L v nk) (e : Sx) (hn : findE L e.id = none)
    (ho : w7.ownsRow w0.heap.size 98 1 v7 (L.length + 1) (L.map pv ++ [pv (e, u.heap.size)])) (hg : (u.alloc (.cells (enRow e) 100)).grownBy w7 v.ownBlock)
    (hm : MapAt w8 Tryz.prog 9 bm (updM (ptrM L) (.string e.id) (pv (e, u.heap.size))) nk') (hg8 : w7.grownBy w8 (some bm)) (hk : nk' ≤ L.length + 1) : EnI w0 w8 bm (L ++ [(e, u.heap.size)]) v7 nk' := by
  have lbm := h.mp.lt
  obtain ⟨es, clock, hmb⟩ := map_blk h.mp
  have nov : ∀ g, g < u.heap.size → (∀ cur, u.heap[g]? ≠ some (.cells cur 98 (0, 0))) → w7.heap[g]? = u.heap[g]? := fun g hgl hc => by
    refine (hg.block g (by simp; omega) (fun e1 => ?_)).trans (alloc_old _ _ hgl)
    obtain ⟨-, cur, hcur⟩ := own_cells h.own e1.symm
    exact hc cur hcur
  have bm7 : w7.heap[bm]? = some (.map es clock) := (nov bm lbm (fun cur hc => by rw [hmb] at hc; cases hc)).trans hmb
  have keep8 : ∀ g, g < w7.heap.size → (∀ es clock, w7.heap[g]? ≠ some (.map es clock)) → w8.heap[g]? = w7.heap[g]? := fun g hgl hc => hg8.block g hgl (fun e1 => by
    injection e1 with e1
    subst e1
    exact hc _ _ bm7)
  have z7 : u.heap.size + 1 ≤ w7.heap.size := by have := hg.size; simpa using this
  have box7 : ∀ q ∈ L, w7.heap[q.2]? = some (.cells (enRow q.1) 100 (0, 0)) := fun q hq => (nov q.2 (lt_of_block (h.box q hq)) (fun cur hc => by rw [h.box q hq] at hc; injection hc with hc; injection hc with _ hc; revert hc; decide)).trans (h.box q hq)
  have new7 : w7.heap[u.heap.size]? = some (.cells (enRow e) 100 (0, 0)) := by
    refine (hg.block u.heap.size (by simp) (fun e1 => ?_)).trans (heap_alloc_new u _)
    obtain ⟨-, cur, hcur⟩ := own_cells h.own e1.symm
    have := lt_of_block hcur
    omega
  have up : ∀ (g : Nat) (cs : Array Value) (t : TypeId), w7.heap[g]? = some (Obj.cells cs t (0, 0)) → w8.heap[g]? = some (Obj.cells cs t (0, 0)) := fun g cs t hc => (keep8 g (lt_of_block hc) (fun es clock hd => by rw [hc] at hd; cases hd)).trans hc
  have lt2 : ∀ q ∈ L, q.2 < u.heap.size := fun q hq => lt_of_block (h.box q hq)
  refine ⟨?_, ?_, h.bmb, ?_, ?_, ?_, ?_, ?_, by simpa using hk⟩
  · have b1 : Below w0.heap.size u w7 := ((Below.refl _ _).alloc h.bel.size _).trans (grown_below hg (fun k hk => (own_cells h.own hk).1) (by have := h.bel.size; simp; omega))
    exact h.bel.trans (b1.trans ⟨hg8.os, hg8.tape, hg8.output, hg8.size, fun k hk => hg8.block k (Nat.lt_of_lt_of_le hk (by have := h.bel.size; omega)) (fun e1 => by injection e1 with e1; have := h.bmb; omega)⟩)
  · rw [← ptrM_add L (e, u.heap.size) hn]; exact hm
  · intro q hq
    rcases List.mem_append.1 hq with hq | hq
    · exact up _ _ _ (box7 q hq)
    · rw [List.mem_singleton.1 hq]; exact up _ _ _ new7
  · intro q hq
    rcases List.mem_append.1 hq with hq | hq
    · exact h.big q hq
    · rw [List.mem_singleton.1 hq]; exact h.bel.size
  · rw [List.length_append, List.map_append]
    refine own_sameG ho (fun g hgo => ?_)
    obtain ⟨-, cur, hc⟩ := own_cells ho hgo
    exact (up _ _ _ hc).trans hc.symm
  · rw [List.map_append]
    refine nodup_snoc h.nd (fun hm2 => ?_)
    obtain ⟨q, hq, e1⟩ := List.mem_map.1 hm2
    have := findE_no hn
    rw [(hasS_iff _ _).2 ⟨q.1, List.mem_map.2 ⟨q, hq, rfl⟩, e1⟩] at this
    cases this
  · rw [List.map_append]
    refine nodup_snoc h.nd2 (fun hm2 => ?_)
    obtain ⟨q, hq, e1⟩ := List.mem_map.1 hm2
    have := lt2 q hq
    have e2 : q.2 = u.heap.size := e1
    omega
theorem EnI.obey {w0 u u' : World} {bm : Nat} {L : List (Sx × Nat)} {v : Value} {nk : Nat} (h : EnI w0 u bm L v nk) {r : RV} {q : Sx × Nat} (hq : findE L r.target = some q) (k : EnP q.2 q.1 r u u') : EnI w0 u' bm (L.map fun x => (obeyS r x.1, x.2)) v nk := by
  obtain ⟨hm, hid⟩ := findE_yes hq
  obtain ⟨es, clock, hmb⟩ := map_blk h.mp
  have nb : bm ≠ q.2 := fun e => by have := h.box q hm; rw [← e, hmb] at this; cases this
  refine ⟨h.bel.trans (k.but.below h.bel.size (fun x hx => by rw [hx]; exact h.big q hm)), ?_, h.bmb, ?_, ?_, ?_, ?_, ?_, by simpa using h.nk⟩
  · rw [ptrM_map _ (obeyS_id r)]; exact h.mp.same (k.but.block bm h.mp.lt nb)
  · intro x hx
    obtain ⟨y, hy, rfl⟩ := List.mem_map.1 hx
    by_cases e : y.1.id = r.target
    · obtain rfl : y = q := nodup_inj h.nd hy hm (e.trans hid.symm)
      show _ = some (Obj.cells (enRow (obeyS r y.1)) _ _)
      unfold obeyS
      rw [if_pos e]
      exact k.row
    · have ne : y.2 ≠ q.2 := fun e2 => e (by rw [nodup_inj h.nd2 hy hm e2]; exact hid)
      show _ = some (Obj.cells (enRow (obeyS r y.1)) _ _)
      unfold obeyS
      rw [if_neg e]
      exact (k.but.block y.2 (lt_of_block (h.box y hy)) ne).trans (h.box y hy)
  · intro x hx
    obtain ⟨y, hy, rfl⟩ := List.mem_map.1 hx
    exact h.big y hy
  · rw [List.length_map, List.map_map]
    refine own_sameG h.own (fun g hg => ?_)
    obtain ⟨-, cur, hc⟩ := own_cells h.own hg
    refine k.but.block g (lt_of_block hc) (fun e => ?_)
    have := h.box q hm
    rw [show g = q.2 from e] at hc
    rw [hc] at this
    injection this with this
    injection this with _ this
    revert this; decide
  · rw [List.map_map]
    have : (L.map ((fun x : Sx × Nat => x.1.id) ∘ fun x => (obeyS r x.1, x.2))) = L.map (·.1.id) := List.map_congr_left (fun x _ => obeyS_id r x.1)
    rw [this]; exact h.nd
  · rw [List.map_map]; exact h.nd2
theorem contains_any (A : Option Addr) (n c : Nat) (l : List Int) (x : Int) (w : World) (hn : n = l.length) (hl : n ≤ 1000000) (h : Rd w A (intsL l)) :
    Calls Tryz.prog 103 #[.slice A n c, .int .i64 x] w fun e w' => e = .returned (.bool (inI l x)) ∧ Below w.heap.size w w' := by
  have ei : inI l x = l.contains x := by
    unfold inI
    rw [List.contains_eq_any_beq]
    congr 1
    funext y
    by_cases hy : y = x
    · subst hy; simp
    · rw [show (y == x) = false by simpa using hy, show (x == y) = false by simpa using (fun e : x = y => hy e.symm)]
  rcases Nat.eq_zero_or_pos n with h0 | hp
  · obtain rfl : l = [] := List.eq_nil_of_length_eq_zero (by omega)
    subst h0
    refine (Tryz.slices_Contains_int_empty A c x w).mono ?_
    rintro e w' ⟨rfl, rfl⟩
    exact ⟨rfl, Below.refl _ _⟩
  · obtain ⟨b, off, rfl, hb, -⟩ := ints_at h (k := 0) (by omega)
    refine (Tryz.slices_Contains_int b off n c l x w (by omega) (by omega) (fun j hj => ?_)).mono ?_
    · obtain ⟨b', off', e', -, cj⟩ := ints_at h hj
      obtain ⟨rfl, rfl⟩ : b = b' ∧ off = off' := by injection e' with e'; injection e' with e1 e2; exact ⟨e1, e2⟩
      rw [cj, List.getD_eq_getElem?_getD, List.getElem?_eq_getElem hj]; rfl
    · rintro e w' ⟨rfl, rfl⟩
      rw [List.take_of_length_le (by omega), ei]
      exact ⟨rfl, Below.refl _ _⟩
end Go.Proofs.YtniklmikdkjgiaaGreatDoor
