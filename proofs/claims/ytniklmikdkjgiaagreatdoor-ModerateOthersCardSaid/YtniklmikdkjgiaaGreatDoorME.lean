/- WORDS: statuses as they lie (4 cells); WALKS: moderate.Status, moderate.Of. -/
import Derived.Test.YtniklmikdkjgiaaGreatDoorMD
set_option linter.unusedSimpArgs false
set_option linter.unusedVariables false
namespace Go.Proofs.YtniklmikdkjgiaaGreatDoor
open Go.RowKit Go.Maps Go.ChangeMaps Go.MapKept Go.WideShapes Go.WideMaps

def stL (e : Sx) : List Value := [.string (mkB e.id), .int .i64 e.st, .string (mkB e.by_), e.cur.edv]
def stsL (l : List Sx) : List Value := l.flatMap stL
theorem stsL_len (l : List Sx) : (stsL l).length = l.length * 4 := flat_len stL 4 (fun _ => rfl) l
theorem stsL_app (l m : List Sx) : stsL (l ++ m) = stsL l ++ stsL m := List.flatMap_append ..
theorem stsL_one (e : Sx) : stsL [e] = stL e := by simp [stsL]
theorem info_st : (Tryz.prog.info? 42).map (fun i => (i.zero, i.size, i.bytes)) = some (some (.agg #[.string ⟨#[]⟩, .int .i64 0, .string ⟨#[]⟩, .slice none 0 0]), 4, 64) := by kernel_rfl
theorem mwo_szL (x : WoV) : (Tryz.prog.info? 38).map (·.size) = some (woL x).length := by kernel_rfl
theorem mwo_szA (x : WoV) : (Tryz.prog.info? 38).map (·.size) = some (woL x).toArray.size := by kernel_rfl
theorem ptrs_at {w : World} {A : Option Addr} {L : List (Sx × Nat)} (h : Rd w A (L.map pv)) {k : Nat} (hk : k < L.length) : ∃ b off, A = some ⟨b, off, none⟩ ∧ b < w.heap.size ∧ w.cell? ⟨b, off + k, none⟩ = some (.pointer (some ⟨L[k].2, 0, none⟩)) := by
  obtain ⟨b, off, e, hb, hc⟩ := h (by simpa using Nat.lt_of_le_of_lt (Nat.zero_le _) hk)
  exact ⟨b, off, e, hb, hc k _ (by rw [List.getElem?_map, List.getElem?_eq_getElem hk]; rfl)⟩
/-- the status as it lies in an entry's box -/
theorem en_st {w : World} {p : Nat} {e : Sx} (h : w.heap[p]? = some (.cells (enRow e) 100 (0, 0))) : w.rangeAt p 1 (stL e) := fun j v hj => by
  match j, hj with
  | 0, hj => exact load_block (i := 1) h hj
  | 1, hj => exact load_block (i := 2) h hj
  | 2, hj => exact load_block (i := 3) h hj
  | 3, hj => exact load_block (i := 4) h hj
theorem rd_rows {w : World} {A : Option Addr} {α : Type} {f : α → List Value} {l : List α} (m : Nat) (hm : 0 < m) (hf : ∀ a, (f a).length = m) (h : Rd w A (l.flatMap f)) {k : Nat} (hk : k < l.length) : ∃ b off, A = some ⟨b, off, none⟩ ∧ b < w.heap.size ∧ w.rangeAt b (off + k * m) (f l[k]) := by
  obtain ⟨b, off, e, hb, hc⟩ := h (by rw [flat_len f m hf]; exact Nat.mul_pos (Nat.lt_of_le_of_lt (Nat.zero_le _) hk) hm)
  refine ⟨b, off, e, hb, fun j v hj => ?_⟩
  have := hc (k * m + j) v (flat_get f m hf hk hj)
  rwa [← Nat.add_assoc] at this
set_option maxHeartbeats 4000000 in
set_option maxRecDepth 100000 in
theorem status_any (A : Option Addr) (n c : Nat) (l : List RV) (x : WoV) (w : World) (hn : n = l.length) (h : Rs w A l) (hx : WoIs w x) (hm : x.mods.length ≤ 1000000) (ht : Tab w) :
    Calls Tryz.prog 32 #[.slice A n c, woA x] w fun e w' => ∃ v, e = .returned v ∧ w'.ownsRow w.heap.size 42 4 v (entS x.mods l).length (stsL (entS x.mods l)) ∧ Below w.heap.size w w' := by
  have hl : n ≤ 100000 := by rw [hn]; exact h.len
  obtain ⟨V, hV⟩ : ∃ V, V = w.alloc (.cells (woL x).toArray 38) := ⟨_, rfl⟩
  obtain ⟨bw, hbw⟩ : ∃ bw, w.heap.size = bw := ⟨_, rfl⟩
  have BV : Below w.heap.size w V := by rw [hV]; exact (Below.refl _ _).alloc (Nat.le_refl _) _
  have RV0 : V.rangeAt bw 0 (woL x) := by have := range_of_row (show V.heap[bw]? = some (.cells (woL x).toArray 38 (0, 0)) by rw [hV, ← hbw]; exact heap_alloc_new w _); simpa using this
  have EC := entries_any A n c l x V hn (h.below BV) (hx.below BV) hm (ht.keep BV)
  have LE : (entS x.mods l).length ≤ n := by rw [hn]; exact entS_len _ _
  have FR : Hid (∀ e ∈ entS x.mods l, ∃ A c, e.cur.edv = .slice A e.cur.edits.length c) := Lib.hid (fun e he => by
    obtain ⟨A, c, e1, -⟩ := (h.is _ (entS_from _ _ e he).cur).ed
    exact ⟨A, c, e1⟩)
  have SZ := mwo_szL x
  unfold woA at EC ⊢
  generalize entS x.mods l = es at *
  generalize woL x = xw at *
  have X0 := Lib.hid hV
  have X1 := Lib.hid hbw
  have ECH := Lib.hid EC
  have R0 := Lib.hid RV0
  have BVH := Lib.hid BV
  have SZH := Lib.hid SZ
  clear h hx hm ht hV hbw EC RV0 BV hn SZ
  go_enter Tryz.func32, Tryz.ntmps32
  go_upto_region 1 with fail
  rw [← X0.out, X1.out]
  clear X0
  go_wp2_with (refine wpList_load_mid rfl 38 (.tmp 3) rfl bw 0 rfl xw _ R0.out Tryz.underlying38 rfl SZH.out ?_)
  (with_reducible refine ECH.out.mono ?_)
  rintro e u1 ⟨v, bm, L, nk, rfl, EI, EL⟩
  obtain ⟨A1, c1, rfl, hR, -⟩ := own_slG EI.own
  obtain ⟨m, hm⟩ : ∃ m, L.length = m := ⟨_, rfl⟩
  have HM := Lib.hid hm
  have EM : Hid (es.length = m) := Lib.hid (by rw [← EL, List.length_map, hm])
  rw [hm]
  have I1 := Lib.hid EI
  have ELH := Lib.hid EL
  have RH := Lib.hid hR
  have B1 : Hid (Below w.heap.size w u1) := Lib.hid (BVH.out.trans (EI.bel.mono BVH.out.size))
  have S0 : Hid (u1.ownsRow u1.heap.size 42 4 (.slice none 0 0) 0 (stsL (es.take 0))) := Lib.hid (World.ownsRow_nil _ _ _ _)
  have hmn : m ≤ n := by rw [← EM.out]; exact LE
  clear EI EL hR ECH R0 SZH hm LE BVH
  go_wp2_with fail
  go_loopw [7, 9, 18] (fun s7 s9 s18 wr => ∃ k : Nat, k ≤ m ∧ s18 = .int .i64 (k : Int) ∧ (∃ p, s9 = p) ∧ Hid (wr.ownsRow u1.heap.size 42 4 s7 k (stsL (es.take k))) ∧ Hid (OldB u1 wr)) (fun _ _ i _ => m - (intOf i).toNat)
  case atStart => exact ⟨0, Nat.zero_le _, rfl, ⟨_, rfl⟩, S0, Lib.hid (Below.refl _ _)⟩
  case round =>
    clear S0
    obtain ⟨k, hk, rfl, ⟨p9, rfl⟩, OW, OH⟩ := hrel
    by_cases hlt : k < m
    · have hkL : k < L.length := by rw [HM.out]; exact hlt
      have hke : k < es.length := by rw [EM.out]; exact hlt
      have d1 : (k : Int) < (m : Int) := by omega
      have d2 : (0 : Int) ≤ (k : Int) := by omega
      have EK := I1.out.call OH.out
      obtain ⟨b, off, rfl, -, ck⟩ := ptrs_at (RH.out.below OH.out) hkL
      have bk := en_st (EK.box L[k] (List.getElem_mem hkL))
      have ee : L[k].1 = es[k] := by simp [← ELH.out]
      rw [ee] at bk
      obtain ⟨A4, c4, e4⟩ := FR.out es[k] (List.getElem_mem hke)
      have TK : Hid (stsL (es.take (k + 1)) = stsL (es.take k) ++ [.string (mkB es[k].id), .int .i64 es[k].st, .string (mkB es[k].by_), .slice A4 es[k].cur.edits.length c4]) := Lib.hid (by rw [List.take_succ_eq_append_getElem hke, stsL_app, stsL_one]; unfold stL; rw [e4])
      generalize L[k].2 = p at *
      generalize es[k] = e at *
      have q0 : wr.cell? ⟨p, 1, none⟩ = some (.string (mkB e.id)) := bk 0 _ rfl
      have q1 : wr.cell? ⟨p, 2, none⟩ = some (.int .i64 e.st) := bk 1 _ rfl
      have q2 : wr.cell? ⟨p, 3, none⟩ = some (.string (mkB e.by_)) := bk 2 _ rfl
      have q3 : wr.cell? ⟨p, 4, none⟩ = some (.slice A4 e.cur.edits.length c4) := (bk 3 _ rfl).trans (by rw [e4])
      have bz : u1.heap.size ≤ wr.heap.size := Below.size OH.out
      clear bk ee e4 EK
      go_wp2_with (at_builtin; refine wpList_appNG rfl (.tmp 22) (.tmp 27) 46 rfl Tryz.underlying46 info_st rfl (by decide) u1.heap.size _ k (stsL (es.take k)) _ 1 (by decide) rfl (by intro y hy; simp at hy; rcases hy with rfl | rfl | rfl | rfl <;> rfl) rfl rfl rfl OW.out bz (by omega) (by omega) ?_; intro g7 c7 w7 ho7 hg7 hl7 hb7)
      refine ⟨⟨k + 1, by omega, by go_num, ⟨_, rfl⟩, ?_, Lib.hid (OH.out.trans hb7)⟩, by simp [intOf]; omega⟩
      rw [TK.out]; exact Lib.hid ho7
    · have d1 : ¬ (k : Int) < (m : Int) := by omega
      have TT : Hid (es.take k = es) := Lib.hid (List.take_of_length_le (by rw [EM.out]; omega))
      have KM : Hid (k = es.length) := Lib.hid (by rw [EM.out]; omega)
      rw [TT.out, KM.out] at OW
      go_wp2_with fail
      go_ret
      exact ⟨_, rfl, own_baseG B1.out.size OW.out, B1.out.trans (Below.mono OH.out B1.out.size)⟩
theorem results_cellT {P : Program} {w : World} {fn : Func} {i j : Nat} {t : TypeId} {ad : Addr} {tmps : Array Value} {v u : Value} (h : fn.results = #[.cell i t, .tmp j]) (hp : tmps.getD i undef = .pointer (some ad)) (hl : (loadVar t ad).run P w = .ok v w) (hu : tmps.getD j undef = u) : (results fn tmps).run P w = .ok (.tuple #[v, u]) w := by
  have hp2 : tmps[i]?.getD undef = .pointer (some ad) := by simpa using hp
  have hu2 : tmps[j]?.getD undef = u := by simpa using hu
  unfold results
  rw [h]
  simp [Array.mapM_eq_mapM_toList, hp2, hu2, asAddr, Sem.run_bind, hl]
def ofS (es : List Sx) (t : Tx) : Option Sx := es.find? fun e => decide (e.id = t)
def ofV (o : Option Sx) : Array Value := match o with
  | some e => (stL e).toArray
  | none => #[.string ⟨#[]⟩, .int .i64 0, .string ⟨#[]⟩, .slice none 0 0]
theorem ofS_find (t : Tx) : ∀ L : List (Sx × Nat), ofS (L.map (·.1)) t = (findE L t).map (·.1)
  | [] => rfl
  | q :: L => by
    have ih := ofS_find t L
    unfold ofS findE at ih ⊢
    rw [List.map_cons, List.find?_cons, List.find?_cons]
    split
    · rfl
    · exact ih
theorem ofS_has (es : List Sx) (t : Tx) : (ofS es t).isSome = hasS es t := by
  unfold ofS hasS
  apply bool_iff
  rw [List.find?_isSome]
  simp
set_option maxHeartbeats 4000000 in
set_option maxRecDepth 100000 in
theorem of_any (A : Option Addr) (n c : Nat) (l : List RV) (x : WoV) (t : Tx) (w : World) (hn : n = l.length) (h : Rs w A l) (hx : WoIs w x) (hm : x.mods.length ≤ 1000000) (htl : t.length ≤ 1000000) (ht : Tab w) :
    Calls Tryz.prog 29 #[.slice A n c, woA x, .string (mkB t)] w fun e w' => e = .returned (.tuple #[.agg (ofV (ofS (entS x.mods l) t)), .bool (hasS (entS x.mods l) t)]) ∧ Below w.heap.size w w' := by
  obtain ⟨V, hV⟩ : ∃ V, V = (w.alloc (.cells (woL x).toArray 38)).alloc (.cells #[.string ⟨#[]⟩, .int .i64 0, .string ⟨#[]⟩, .slice none 0 0] 42) := ⟨_, rfl⟩
  obtain ⟨bw, hbw⟩ : ∃ bw, w.heap.size = bw := ⟨_, rfl⟩
  obtain ⟨bs, hbs⟩ : ∃ bs, w.heap.size + 1 = bs := ⟨_, rfl⟩
  have BV : Below w.heap.size w V := by rw [hV]; exact ((Below.refl _ _).alloc (Nat.le_refl _) _).alloc (by simp) _
  have RV0 : V.rangeAt bw 0 (woL x) := by have := range_of_row (show V.heap[bw]? = some (.cells (woL x).toArray 38 (0, 0)) by rw [hV, ← hbw]; exact (alloc_old _ _ (by simp)).trans (heap_alloc_new w _)); simpa using this
  have XS : V.heap[bs]? = some (.cells #[.string ⟨#[]⟩, .int .i64 0, .string ⟨#[]⟩, .slice none 0 0] 42 (0, 0)) := by rw [hV, ← hbs]; exact alloc_new' _ _ _ (by simp)
  have EC := entries_any A n c l x V hn (h.below BV) (hx.below BV) hm (ht.keep BV)
  have FR : Hid (∀ e ∈ entS x.mods l, ∃ A c, e.cur.edv = .slice A e.cur.edits.length c) := Lib.hid (fun e he => by
    obtain ⟨A, c, e1, -⟩ := (h.is _ (entS_from _ _ e he).cur).ed
    exact ⟨A, c, e1⟩)
  have SZ := mwo_szL x
  unfold woA at EC ⊢
  have hbs2 : w.heap.size ≤ bs := by omega
  generalize entS x.mods l = es at *
  generalize woL x = xw at *
  have X0 := Lib.hid hV
  have X1 := Lib.hid hbw
  have X2 := Lib.hid hbs
  have ECH := Lib.hid EC
  have R0 := Lib.hid RV0
  have XSH := Lib.hid XS
  have BVH := Lib.hid BV
  have SZH := Lib.hid SZ
  have HB2 := Lib.hid hbs2
  clear h hx hm ht hV hbw hbs EC RV0 XS BV hn SZ hbs2
  go_enter Tryz.func29, Tryz.ntmps29
  go_upto_region 1 with fail
  rw [← X0.out, X2.out, X1.out]
  clear X0
  go_wp2_with (refine wpList_load_mid rfl 38 (.tmp 4) rfl bw 0 rfl xw _ R0.out Tryz.underlying38 rfl SZH.out ?_)
  (with_reducible refine ECH.out.mono ?_)
  rintro e u1 ⟨v, bm, L, nk, rfl, EI, EL⟩
  have KS := key_str t htl
  have lk := EI.mp.look strK Tryz.underlying95 (zPtr u1) KS
  have XS1 := (EI.bel.block bs (lt_of_block XSH.out)).trans XSH.out
  have B1 : Below w.heap.size w u1 := BVH.out.trans (EI.bel.mono BVH.out.size)
  have PO : Hid (ofS es t = (findE L t).map (·.1)) := Lib.hid (by rw [← EL]; exact ofS_find t L)
  cases hf : findE L t with
  | none =>
    have lv : ((ptrM L (.string t)).getD (.pointer none)) = .pointer none := by
      show ((findE L t).map pv).getD _ = _
      rw [hf]; rfl
    rw [lv] at lk
    have PV : Hid (ofV (ofS es t) = #[.string ⟨#[]⟩, .int .i64 0, .string ⟨#[]⟩, .slice none 0 0]) := Lib.hid (by rw [PO.out, hf]; rfl)
    have PB : Hid (hasS es t = false) := Lib.hid (by rw [← ofS_has, PO.out, hf]; rfl)
    have LV := Lib.hid (run_loadVar_mid (P := Tryz.prog) (u1.setCells bs 0 ((#[.string ⟨#[]⟩, .int .i64 0, .string ⟨#[]⟩, .slice none 0 0] : Array Value)).toList) bs 0 42 ((#[.string ⟨#[]⟩, .int .i64 0, .string ⟨#[]⟩, .slice none 0 0] : Array Value)).toList _ (range_setCells (cs := #[.string ⟨#[]⟩, .int .i64 0, .string ⟨#[]⟩, .slice none 0 0]) XS1 rfl) Tryz.underlying42 rfl (by kernel_rfl))
    have BB := Lib.hid (below_setCells (w' := u1) bs ((#[.string ⟨#[]⟩, .int .i64 0, .string ⟨#[]⟩, .slice none 0 0] : Array Value)).toList 0 u1 B1 HB2.out)
    have XH := Lib.hid XS1
    have B1H := Lib.hid B1
    clear lv KS hf EI EL XS1 B1 ECH XSH BVH R0
    go_wp2_with (refine wpList_store_mid rfl 42 (.tmp 6) (.tmp 26) rfl bs 0 #[.string ⟨#[]⟩, .int .i64 0, .string ⟨#[]⟩, .slice none 0 0] rfl rfl (there_of_row XH.out (Nat.le_refl 4)) (by kernel_rfl) (by simp [Value.oneCell']) ?_)
    exact bodyPost_ret (results_cellT (i := 6) (j := 7) (t := 42) rfl rfl LV.out rfl) rfl ⟨by rw [PV.out, PB.out]; rfl, BB.out⟩
  | some q =>
    have lv : ((ptrM L (.string t)).getD (.pointer none)) = .pointer (some ⟨q.2, 0, none⟩) := by
      show ((findE L t).map pv).getD _ = _
      rw [hf]; rfl
    rw [lv] at lk
    have qm : q.1 ∈ es := by rw [← EL]; exact List.mem_map.2 ⟨q, (findE_yes hf).1, rfl⟩
    obtain ⟨A4, c4, e4⟩ := FR.out q.1 qm
    have PV : Hid (ofV (ofS es t) = #[.string (mkB q.1.id), .int .i64 q.1.st, .string (mkB q.1.by_), .slice A4 q.1.cur.edits.length c4]) := Lib.hid (by rw [PO.out, hf]; show (stL q.1).toArray = _; unfold stL; rw [e4])
    have PB : Hid (hasS es t = true) := Lib.hid (by rw [← ofS_has, PO.out, hf]; rfl)
    have bk := en_st (EI.box q (findE_yes hf).1)
    have q0 : u1.cell? ⟨q.2, 1, none⟩ = some (.string (mkB q.1.id)) := bk 0 _ rfl
    have q1 : u1.cell? ⟨q.2, 2, none⟩ = some (.int .i64 q.1.st) := bk 1 _ rfl
    have q2 : u1.cell? ⟨q.2, 3, none⟩ = some (.string (mkB q.1.by_)) := bk 2 _ rfl
    have q3 : u1.cell? ⟨q.2, 4, none⟩ = some (.slice A4 q.1.cur.edits.length c4) := (bk 3 _ rfl).trans (by rw [e4])
    have LV := Lib.hid (run_loadVar_mid (P := Tryz.prog) (u1.setCells bs 0 ((#[.string (mkB q.1.id), .int .i64 q.1.st, .string (mkB q.1.by_), .slice A4 q.1.cur.edits.length c4] : Array Value)).toList) bs 0 42 ((#[.string (mkB q.1.id), .int .i64 q.1.st, .string (mkB q.1.by_), .slice A4 q.1.cur.edits.length c4] : Array Value)).toList _ (range_setCells (cs := #[.string (mkB q.1.id), .int .i64 q.1.st, .string (mkB q.1.by_), .slice A4 q.1.cur.edits.length c4]) XS1 rfl) Tryz.underlying42 rfl (by kernel_rfl))
    have BB := Lib.hid (below_setCells (w' := u1) bs ((#[.string (mkB q.1.id), .int .i64 q.1.st, .string (mkB q.1.by_), .slice A4 q.1.cur.edits.length c4] : Array Value)).toList 0 u1 B1 HB2.out)
    have XH := Lib.hid XS1
    have B1H := Lib.hid B1
    clear lv KS hf EI EL XS1 B1 ECH XSH BVH R0 qm bk e4
    go_wp2_with (refine wpList_store_mid rfl 42 (.tmp 6) (.tmp 25) rfl bs 0 #[.string (mkB q.1.id), .int .i64 q.1.st, .string (mkB q.1.by_), .slice A4 q.1.cur.edits.length c4] rfl rfl (there_of_row XH.out (Nat.le_refl 4)) (by kernel_rfl) (by simp [Value.oneCell']) ?_)
    exact bodyPost_ret (results_cellT (i := 6) (j := 7) (t := 42) rfl rfl LV.out rfl) rfl ⟨by rw [PV.out, PB.out]; rfl, BB.out⟩
end Go.Proofs.YtniklmikdkjgiaaGreatDoor
