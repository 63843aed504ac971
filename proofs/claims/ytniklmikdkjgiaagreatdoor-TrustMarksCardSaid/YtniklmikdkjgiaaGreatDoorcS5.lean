import Derived.Test.YtniklmikdkjgiaaGreatDoorcLD
import Derived.Test.YtniklmikdkjgiaaGreatDoorcS4
import Derived.Test.YtniklmikdkjgiaaGreatDoorWD
set_option linter.all false
set_option maxHeartbeats 16000000
set_option maxRecDepth 100000
namespace Go.Proofs.YtniklmikdkjgiaaGreatDoor
open Go.RowKit
def tstepC (rev : Tx → Bool) (s : TS) (c : Rc) : TS :=
  if validR c then
    if c.kind = 1 then (match auG s.au (idC c) with | some _ => s | none => ⟨s.au ++ [(idC c, c.author)], s.mr, if rev (idC c) then s.nd ++ [c.author] else s.nd⟩)
    else if c.kind = 2 then ⟨s.au, ((c.author, c.target), c.yes && (auG s.au c.target).isSome) :: s.mr, s.nd⟩
    else s
  else s
theorem ts_c (rev : Tx → Bool) : ∀ (l : List RV) (s : TS), l.foldl (tstep rev) s = (l.map RV.c).foldl (tstepC rev) s
  | [], _ => rfl
  | r :: l, s => ts_c rev l (tstep rev s r)
def stepC (ms : List Int) (es : List (Tx × Int)) (c : Rc) : List (Tx × Int) :=
  if c.kind = 1 then (if (es.any fun e => decide (e.1 = idC c)) = true then es else es ++ [(idC c, 1)])
  else if c.kind = 3 then (if inI ms c.author then es.map (fun e => if e.1 = c.target then (if 1 ≤ c.order ∧ c.order ≤ 4 then (e.1, stOf c.order) else e) else e) else es)
  else es
def sxC (e : Sx) : Tx × Int := (e.id, e.st)
theorem step_c (ms : List Int) (es : List Sx) (r : RV) : (stepS ms es r).map sxC = stepC ms (es.map sxC) r.c := by
  unfold stepS stepC
  have e1 : r.c.kind = r.kind := rfl
  have e2 : r.c.author = r.author := rfl
  have e3 : r.c.target = r.target := rfl
  have e4 : r.c.order = r.order := rfl
  rw [e1, e2, e3, e4]
  by_cases h1 : r.kind = 1
  · rw [if_pos h1, if_pos h1]
    have : (es.map sxC).any (fun e => decide (e.1 = idC r.c)) = hasS es (idC r.c) := by
      unfold hasS
      rw [List.any_map]
      rfl
    rw [this]
    split
    · rfl
    · rw [List.map_append]; rfl
  · rw [if_neg h1, if_neg h1]
    by_cases h3 : r.kind = 3
    · rw [if_pos h3, if_pos h3]
      split
      · rw [List.map_map, List.map_map]
        apply List.map_congr_left
        intro e _
        show sxC (obeyS r e) = if e.id = r.target then _ else _
        unfold obeyS obeyT
        split
        · split <;> rfl
        · rfl
      · rfl
    · rw [if_neg h3, if_neg h3]
theorem ent_c (ms : List Int) : ∀ (l : List RV) (es : List Sx), (l.foldl (stepS ms) es).map sxC = (l.map RV.c).foldl (stepC ms) (es.map sxC)
  | [], _ => rfl
  | r :: l, es => by
    rw [List.foldl_cons, List.map_cons, List.foldl_cons, ← step_c]
    exact ent_c ms l _
def revC (ms : List Int) (cs : List Rc) (t : Tx) : Bool := (cs.foldl (stepC ms) []).any fun e => decide (e.1 = t) && decide (e.2 = 3)
theorem rev_c (ms : List Int) (l : List RV) : revT ms l = revC ms (l.map RV.c) := by
  funext t
  have := ent_c ms l []
  unfold revT revC entS
  rw [show ([] : List (Tx × Int)) = ([] : List Sx).map sxC from rfl, ← this, List.any_map]
  rfl
def gdC (n : Nat) (ms : List Int) (need : Int) (cs : List Rc) : GD := ⟨n, fun i => inI ms (i : Int), fun k i => confT (revC ms cs) (cs.foldl (tstepC (revC ms cs)) ⟨[], [], []⟩) n (k : Int) (i : Int), (List.range n).map fun (i : Nat) => needT (baseT need) (cs.foldl (tstepC (revC ms cs)) ⟨[], [], []⟩) ((i : Nat) : Int)⟩
theorem gd_c (x : WoV) (l : List RV) : gdT x l = gdC x.keys.length x.mods x.need (l.map RV.c) := by
  unfold gdT gdC tsF
  rw [rev_c, ts_c]
def lvD (d : GD) : List Int := levelsT d.M d.C d.need d.n
def whyD (d : GD) (m : Int) : List Nat := (List.range d.n).filter fun k => decide (0 ≤ m) && decide (m < (d.n : Int)) && decide (0 < (lvD d).getD k 0) && decide ((lvD d).getD k 0 < (lvD d).getD m.toNat 0) && decide (1 < (lvD d).getD m.toNat 0) && d.C k m.toNat
def nT : Tx := [110]
def chgK (k : Int) (v : Value) : RV := ⟨1, k, 1, 1, mainT, [], .slice none 0 0, [dropE nT], v, [], false, 0, [], zeroSl, [], [], [], .slice none 0 0, [], .slice none 0 0, zeroSl⟩
def markR (a : Int) (t : Tx) (y : Bool) : RV := ⟨2, a, 2, 2, mainT, [], .slice none 0 0, [], .slice none 0 0, t, y, 0, [], zeroSl, [], [], [], .slice none 0 0, [], .slice none 0 0, zeroSl⟩
def revR (t : Tx) : RV := ⟨3, 0, 3, 3, mainT, [], .slice none 0 0, [], .slice none 0 0, t, false, 4, [], zeroSl, [], [], [], .slice none 0 0, [], .slice none 0 0, zeroSl⟩
def kC (k : Int) : Rc := (chgK k (.slice none 0 0)).c
def idK (k : Int) : Tx := idC (kC k)
def chainL (v1 v2 v3 : Value) : List RV := [chgK 1 v1, chgK 2 v2, chgK 3 v3, markR 0 (idK 1) true, markR 1 (idK 2) true]
def puppL (v1 v2 v3 : Value) : List RV := [chgK 1 v1, chgK 2 v2, chgK 3 v3, markR 2 (idK 3) true, markR 3 (idK 2) true, markR 2 (idK 2) true]
def revL (v1 v2 v3 : Value) : List RV := [chgK 1 v1, chgK 2 v2, chgK 3 v3, markR 0 (idK 1) true, revR (idK 1)]
def chainC : List Rc := (chainL (.slice none 0 0) (.slice none 0 0) (.slice none 0 0)).map RV.c
def puppC : List Rc := (puppL (.slice none 0 0) (.slice none 0 0) (.slice none 0 0)).map RV.c
def revlC : List Rc := (revL (.slice none 0 0) (.slice none 0 0) (.slice none 0 0)).map RV.c
theorem chain_lv : lvD (gdC 4 [0] 1 chainC) = [1, 2, 3, 0] := by decide +kernel
theorem pupp_lv : lvD (gdC 4 [0] 1 puppC) = [1, 0, 0, 0] := by decide +kernel
theorem revl_lv : lvD (gdC 4 [0] 1 revlC) = [1, 0, 0, 0] := by decide +kernel
theorem chain_why2 : whyD (gdC 4 [0] 1 chainC) 2 = [1] := by decide +kernel
theorem chain_why0 : whyD (gdC 4 [0] 1 chainC) 0 = [] := by decide +kernel
end Go.Proofs.YtniklmikdkjgiaaGreatDoor
namespace Go.Proofs.YtniklmikdkjgiaaGreatDoor
open Go.RowKit
def lvPk (L : List Int) (k : Nat) : List Pt := (List.range k).map fun (i : Nat) => ((i : Int), L.getD i 0)
def lvP (L : List Int) : List Pt := lvPk L L.length
theorem lvPk_succ (L : List Int) (k : Nat) : ptsL (lvPk L (k + 1)) = ptsL (lvPk L k) ++ [.int .i64 (k : Int), .int .i64 (L.getD k 0)] := by
  unfold lvPk ptsL
  rw [List.range_succ, List.map_append, List.flatMap_append]
  rfl
theorem lvPk_len (L : List Int) (k : Nat) : (lvPk L k).length = k := by simp [lvPk]
theorem lvP_len (L : List Int) : (lvP L).length = L.length := lvPk_len L _
theorem lvP_get (L : List Int) {k : Nat} (h : k < (lvP L).length) : (lvP L)[k] = ((k : Int), L.getD k 0) := by simp [lvP, lvPk]
theorem info_lv : (Tryz.prog.info? 69).map (fun i => (i.zero, i.size, i.bytes)) = some (some (.agg #[.int .i64 0, .int .i64 0]), 2, 16) := by kernel_rfl
theorem lvls_any (A : Option Addr) (n c : Nat) (l : List RV) (x : WoV) (w : World) (hn : n = l.length) (h : Rs w A l) (hx : WoIs w x) (hm : x.mods.length ≤ 1000000) (hk : x.keys.length ≤ 1000) (ht : Tab w) :
    Calls Tryz.prog 43 #[.slice A n c, woA x] w fun e w' => ∃ v, e = .returned v ∧ w'.ownsRow w.heap.size 69 2 v x.keys.length (ptsL (lvP (lvT x l))) ∧ Below w.heap.size w w' := by
  obtain ⟨V, hV⟩ : ∃ V, V = w.alloc (.cells (woL x).toArray 38) := ⟨_, rfl⟩
  obtain ⟨bw, hbw⟩ : ∃ bw, w.heap.size = bw := ⟨_, rfl⟩
  have BV : Below w.heap.size w V := by rw [hV]; exact (Below.refl _ _).alloc (Nat.le_refl _) _
  have RV0 : V.rangeAt bw 0 (woL x) := by have := range_of_row (show V.heap[bw]? = some (.cells (woL x).toArray 38 (0, 0)) by rw [hV, ← hbw]; exact heap_alloc_new w _); simpa using this
  have EC := tof_any A n c l x V hn (h.below BV) (hx.below BV) hm hk (ht.keep BV)
  have SZ := mwo_szL x
  have LL : Hid ((lvT x l).length = x.keys.length) := Lib.hid (lvT_len x l)
  unfold woA at EC ⊢
  have LVE : Hid (levelsT (gdT x l).M (gdT x l).C (gdT x l).need (gdT x l).n = lvT x l) := Lib.hid rfl
  have GN : Hid ((gdT x l).n = x.keys.length) := Lib.hid rfl
  generalize gdT x l = gd at *
  generalize lvT x l = L at *
  generalize woL x = xw at *
  generalize x.keys.length = nk at *
  have X0 := Lib.hid hV
  have X1 := Lib.hid hbw
  have ECH := Lib.hid EC
  have R0 := Lib.hid RV0
  have BVH := Lib.hid BV
  have SZH := Lib.hid SZ
  clear h hx hm ht hV hbw EC RV0 BV hn SZ
  go_enter Tryz.func43, Tryz.ntmps43
  go_upto_region 1 with fail
  rw [← X0.out, X1.out]
  clear X0
  go_wp2_with (refine wpList_load_mid rfl 38 (.tmp 3) rfl bw 0 rfl xw _ R0.out Tryz.underlying38 rfl SZH.out ?_)
  (with_reducible refine ECH.out.mono ?_)
  rintro e u1 ⟨p, rfl, gr, pl, b1⟩
  have B1 : Hid (Below w.heap.size w u1) := Lib.hid (BVH.out.trans (b1.mono BVH.out.size))
  have LV := Lib.hid (levels_any u1 p gd gr pl)
  clear gr pl b1 ECH R0 SZH
  go_wp2_with fail
  (with_reducible refine LV.out.mono ?_)
  rintro e u2 ⟨v, rfl, ⟨A2, c2, rfl, hR⟩, b2⟩
  rw [GN.out]
  have RH : Hid (Rd u2 A2 (intsL L)) := Lib.hid (by rw [← LVE.out]; exact hR)
  have B2 : Hid (Below w.heap.size w u2) := Lib.hid (B1.out.trans (b2.mono B1.out.size))
  have S0 : Hid (u2.ownsRow u2.heap.size 69 2 (.slice none 0 0) 0 (ptsL (lvPk L 0))) := Lib.hid (World.ownsRow_nil _ _ _ _)
  clear hR b2 LV LVE B1
  go_wp2_with fail
  go_loopw [5, 6, 7, 13] (fun s5 s6 s7 s13 wr => ∃ k : Nat, k ≤ nk ∧ s13 = .int .i64 (k : Int) ∧ (∃ p, s6 = p) ∧ (∃ p, s7 = p) ∧ Hid (wr.ownsRow u2.heap.size 69 2 s5 k (ptsL (lvPk L k))) ∧ Hid (OldB u2 wr)) (fun _ _ _ i _ => nk - (intOf i).toNat)
  case atStart => exact ⟨0, Nat.zero_le _, rfl, ⟨_, rfl⟩, ⟨_, rfl⟩, S0, Lib.hid (Below.refl _ _)⟩
  case round =>
    clear S0
    obtain ⟨k, hk, rfl, ⟨p6, rfl⟩, ⟨p7, rfl⟩, OW, OH⟩ := hrel
    by_cases hlt : k < nk
    · have hkl : k < L.length := by rw [LL.out]; exact hlt
      have d1 : (k : Int) < (nk : Int) := by omega
      have d2 : (0 : Int) ≤ (k : Int) := by omega
      obtain ⟨b, off, rfl, hb, hc⟩ := (RH.out.below OH.out) (by unfold intsL; rw [List.length_map]; omega)
      have ck := hc k (.int .i64 (L.getD k 0)) (by unfold intsL; rw [List.getElem?_map, List.getD_eq_getElem?_getD, List.getElem?_eq_getElem hkl]; rfl)
      have TK : Hid (ptsL (lvPk L (k + 1)) = ptsL (lvPk L k) ++ [.int .i64 (k : Int), .int .i64 (L.getD k 0)]) := Lib.hid (lvPk_succ L k)
      generalize L.getD k 0 = y at *
      have bz : u2.heap.size ≤ wr.heap.size := Below.size OH.out
      clear hc
      go_wp2_with (at_builtin; refine wpList_appNG rfl (.tmp 18) (.tmp 22) 66 rfl Tryz.underlying66 info_lv rfl (by decide) u2.heap.size _ k (ptsL (lvPk L k)) _ 1 (by decide) rfl (by intro y hy; simp at hy; rcases hy with rfl | rfl <;> rfl) rfl rfl rfl OW.out bz (by omega) (by omega) ?_; intro g7 c7 w7 ho7 hg7 hl7 hb7)
      refine ⟨⟨k + 1, by omega, by go_num, ⟨_, rfl⟩, ⟨_, rfl⟩, ?_, Lib.hid (OH.out.trans hb7)⟩, by simp [intOf]; omega⟩
      rw [TK.out]; exact Lib.hid ho7
    · obtain rfl : nk = k := by omega
      have d1 : ¬ (nk : Int) < (nk : Int) := by omega
      have E : Hid (lvPk L nk = lvP L) := Lib.hid (by unfold lvP; rw [LL.out])
      rw [E.out] at OW
      have FB : Hid (Below w.heap.size w wr) := Lib.hid (B2.out.trans (Below.mono OH.out B2.out.size))
      have F2 := Lib.hid (own_baseG B2.out.size OW.out)
      go_wp2_with fail
      go_ret
      exact ⟨_, rfl, F2.out, FB.out⟩
def trT (x : WoV) (l : List RV) (m : Int) : Bool := (lvP (lvT x l)).any (trB m)
theorem trP_at (L : List Int) {k : Nat} (h : k < L.length) : (lvP L).any (trB (k : Int)) = decide (0 < L.getD k 0) := by
  rw [Bool.eq_iff_iff, List.any_eq_true, decide_eq_true_eq]
  constructor
  · rintro ⟨p, hp, hh⟩
    unfold lvP lvPk at hp
    rw [List.mem_map] at hp
    obtain ⟨i, hi, rfl⟩ := hp
    unfold trB at hh
    simp only [Bool.and_eq_true, decide_eq_true_eq] at hh
    have : i = k := by omega
    subst this
    exact hh.2
  · intro hp
    refine ⟨((k : Int), L.getD k 0), ?_, by unfold trB; rw [Bool.and_eq_true, decide_eq_true_eq, decide_eq_true_eq]; exact ⟨rfl, hp⟩⟩
    unfold lvP lvPk
    exact List.mem_map.2 ⟨k, List.mem_range.2 h, rfl⟩
theorem trP_out (L : List Int) {m : Int} (h : (L.length : Int) ≤ m) : (lvP L).any (trB m) = false := by
  rw [List.any_eq_false]
  intro p hp hh
  unfold lvP lvPk at hp
  rw [List.mem_map] at hp
  obtain ⟨i, hi, rfl⟩ := hp
  have hi := List.mem_range.1 hi
  unfold trB at hh
  simp only [Bool.and_eq_true, decide_eq_true_eq] at hh
  omega
theorem trusted_any (A : Option Addr) (n c : Nat) (l : List RV) (x : WoV) (m : Int) (w : World) (hn : n = l.length) (h : Rs w A l) (hx : WoIs w x) (hm : x.mods.length ≤ 1000000) (hk : x.keys.length ≤ 1000) (ht : Tab w) :
    Calls Tryz.prog 90 #[.slice A n c, woA x, .int .i64 m] w fun e w' => e = .returned (.bool (trT x l m)) ∧ Below w.heap.size w w' := by
  obtain ⟨V, hV⟩ : ∃ V, V = (w.alloc (.cells (woL x).toArray 38)).alloc (.cells #[.int .i64 m] 3) := ⟨_, rfl⟩
  obtain ⟨bw, hbw⟩ : ∃ bw, w.heap.size = bw := ⟨_, rfl⟩
  obtain ⟨bm, hbm⟩ : ∃ bm, w.heap.size + 1 = bm := ⟨_, rfl⟩
  have BV : Below w.heap.size w V := by rw [hV]; exact ((Below.refl _ _).alloc (Nat.le_refl _) _).alloc (by simp) _
  have RV0 : V.rangeAt bw 0 (woL x) := by have := range_of_row (show V.heap[bw]? = some (.cells (woL x).toArray 38 (0, 0)) by rw [hV, ← hbw]; exact (alloc_old _ _ (by simp)).trans (heap_alloc_new w _)); simpa using this
  have MB : MbAt bm m V := by
    show V.heap[bm]? = _
    rw [hV, ← hbm]; exact alloc_new' _ _ _ (by simp)
  have EC := lvls_any A n c l x V hn (h.below BV) (hx.below BV) hm hk (ht.keep BV)
  have SZ := mwo_szL x
  have LL : Hid ((lvP (lvT x l)).length = x.keys.length) := Lib.hid (by rw [lvP_len, lvT_len])
  have TT : Hid (trT x l m = (lvP (lvT x l)).any (trB m)) := Lib.hid rfl
  unfold woA at EC ⊢
  generalize trT x l m = R at *
  generalize lvP (lvT x l) = L at *
  generalize woL x = xw at *
  generalize x.keys.length = nk at *
  have X0 := Lib.hid hV
  have X1 := Lib.hid hbw
  have X2 := Lib.hid hbm
  have ECH := Lib.hid EC
  have R0 := Lib.hid RV0
  have BVH := Lib.hid BV
  have SZH := Lib.hid SZ
  have MBH := Lib.hid MB
  clear h hx hm ht hV hbw hbm EC RV0 BV hn SZ MB
  go_enter Tryz.func90, Tryz.ntmps90
  go_upto_region 1 with fail
  rw [← X0.out]
  try rw [X2.out]
  rw [X1.out]
  clear X0
  go_wp2_with (refine wpList_load_mid rfl 38 (.tmp 4) rfl bw 0 rfl xw _ R0.out Tryz.underlying38 rfl SZH.out ?_)
  (with_reducible refine ECH.out.mono ?_)
  rintro e u1 ⟨v, rfl, ho, b1⟩
  obtain ⟨A1, c1, rfl, hR, -⟩ := own_slG ho
  have B1 : Hid (Below w.heap.size w u1) := Lib.hid (BVH.out.trans (b1.mono BVH.out.size))
  have HA := Lib.hid (haslv_any bm m A1 nk c1 L u1 LL.out.symm (by omega) hR (MBH.out.below b1))
  rw [← TT.out] at HA
  clear ho hR b1 ECH R0 SZH
  go_wp2_with fail
  (with_reducible refine HA.out.mono ?_)
  rintro e u2 ⟨rfl, b2⟩
  have B2 : Hid (Below w.heap.size w u2) := Lib.hid (B1.out.trans (b2.mono B1.out.size))
  clear b2 HA
  go_wp2_with fail
  go_ret
  exact ⟨rfl, B2.out⟩
end Go.Proofs.YtniklmikdkjgiaaGreatDoor
namespace Go.Proofs.YtniklmikdkjgiaaGreatDoor
open Go.RowKit
theorem take_next {T L : List Int} {k : Nat} (h : T.take k = L.take k) (h1 : k < T.length) (h2 : k < L.length) (e : T.getD k 0 = L.getD k 0) : T.take (k + 1) = L.take (k + 1) := by
  rw [List.take_succ_eq_append_getElem h1, List.take_succ_eq_append_getElem h2, h]
  rw [List.getD_eq_getElem?_getD, List.getD_eq_getElem?_getD, List.getElem?_eq_getElem h1, List.getElem?_eq_getElem h2] at e
  congr 2
theorem take_ne {T L : List Int} {k : Nat} (e : ¬ T.getD k 0 = L.getD k 0) : ¬ T = L := fun h => e (by rw [h])
theorem are_any (A : Option Addr) (n c : Nat) (l : List RV) (x : WoV) (AL : Option Addr) (m cL : Nat) (L : List Int) (w : World) (hn : n = l.length) (h : Rs w A l) (hx : WoIs w x) (hm : x.mods.length ≤ 1000000) (hk : x.keys.length ≤ 1000) (ht : Tab w) (hL : Rd w AL (intsL L)) (hm2 : m = L.length) (hm3 : m ≤ 1000) :
    Calls Tryz.prog 89 #[.slice A n c, woA x, .slice AL m cL] w fun e w' => e = .returned (.bool (decide (lvT x l = L))) ∧ Below w.heap.size w w' := by
  obtain ⟨V, hV⟩ : ∃ V, V = w.alloc (.cells (woL x).toArray 38) := ⟨_, rfl⟩
  obtain ⟨bw, hbw⟩ : ∃ bw, w.heap.size = bw := ⟨_, rfl⟩
  have BV : Below w.heap.size w V := by rw [hV]; exact (Below.refl _ _).alloc (Nat.le_refl _) _
  have XV : V.heap[bw]? = some (.cells (woL x).toArray 38 (0, 0)) := by rw [hV, ← hbw]; exact heap_alloc_new w _
  have RW : Hid (∀ u, OldB V u → u.rangeAt bw 0 (woL x)) := Lib.hid (fun u hu => by have := range_of_row ((hu.block bw (lt_of_block XV)).trans XV); simpa using this)
  have BA : Hid (∀ u, OldB V u → Below w.heap.size w u) := Lib.hid (fun u hu => BV.trans (Below.mono hu BV.size))
  have EC := lvls_any A n c l x V hn (h.below BV) (hx.below BV) hm hk (ht.keep BV)
  have TR : Hid (∀ (k : Nat) u, OldB V u → k < x.keys.length → Calls Tryz.prog 90 #[.slice A n c, .agg (woL x).toArray, .int .i64 (k : Int)] u fun e w' => e = .returned (.bool (decide (0 < (lvT x l).getD k 0))) ∧ Below u.heap.size u w') := Lib.hid (fun k u hu hlt => by
    have := trusted_any A n c l x (k : Int) u hn (h.below (BA.out u hu)) (hx.below (BA.out u hu)) hm hk (ht.keep (BA.out u hu))
    unfold woA at this
    rw [show trT x l (k : Int) = _ from trP_at (lvT x l) (by rw [lvT_len]; exact hlt)] at this
    exact this)
  have RL : Hid (∀ u, OldB V u → Rd u AL (intsL L)) := Lib.hid (fun u hu => hL.below (BA.out u hu))
  have LT : Hid ((lvT x l).length = x.keys.length) := Lib.hid (lvT_len x l)
  have SZ := mwo_szL x
  unfold woA at EC ⊢
  generalize lvT x l = T at *
  generalize woL x = xw at *
  generalize x.keys.length = nk at *
  have X0 := Lib.hid hV
  have X1 := Lib.hid hbw
  have ECH := Lib.hid EC
  have SZH := Lib.hid SZ
  have M2 := Lib.hid hm2
  clear h hx hm ht hV hbw EC XV BV hn SZ hL hm2
  go_enter Tryz.func89, Tryz.ntmps89
  go_upto_region 1 with fail
  rw [← X0.out, X1.out]
  clear X0
  go_wp2_with (refine wpList_load_mid rfl 38 (.tmp 4) rfl bw 0 rfl xw _ (RW.out _ (Below.refl _ _)) Tryz.underlying38 rfl SZH.out ?_)
  (with_reducible refine ECH.out.mono ?_)
  rintro e u1 ⟨v, rfl, ho, b1⟩
  obtain ⟨A7, c7, rfl, hR, -⟩ := own_slG ho
  have O1 : OldB V u1 := b1
  have RH : Hid (Rd u1 A7 (ptsL (lvP T))) := Lib.hid hR
  have S0 : Hid (T.take 0 = L.take 0) := Lib.hid rfl
  clear ho hR b1 ECH
  go_wp2_with fail
  go_loopw [8] (fun s8 wr => ∃ k : Nat, k ≤ nk ∧ k ≤ m ∧ s8 = .int .i64 (k : Int) ∧ Hid (T.take k = L.take k) ∧ Hid (OldB u1 wr)) (fun i _ => nk - (intOf i).toNat)
  case atStart => exact ⟨0, Nat.zero_le _, Nat.zero_le _, rfl, S0, Lib.hid (Below.refl _ _)⟩
  case round =>
    clear S0
    obtain ⟨k, hk1, hk2, rfl, TK, OH⟩ := hrel
    have OV : Hid (OldB V wr) := Lib.hid (O1.then OH.out)
    by_cases hlt : k < nk
    · have d1 : (k : Int) < (nk : Int) := by omega
      by_cases hlt2 : k < m
      · have d2 : (k : Int) < (m : Int) := by omega
        have d3 : (0 : Int) ≤ (k : Int) := by omega
        have hk3 : k < (lvP T).length := by rw [lvP_len, LT.out]; exact hlt
        have hk4 : k < L.length := by rw [← M2.out]; exact hlt2
        have hk5 : k < T.length := by rw [LT.out]; exact hlt
        obtain ⟨b, off, rfl, hb, c0, c1⟩ := pts_at (RH.out.below OH.out) hk3
        rw [lvP_get] at c0 c1
        dsimp only at c0 c1
        obtain ⟨b2, off2, rfl, hb2, hc2⟩ := RL.out wr OV.out (by unfold intsL; rw [List.length_map]; omega)
        have c2 := hc2 k (.int .i64 (L.getD k 0)) (by unfold intsL; rw [List.getElem?_map, List.getD_eq_getElem?_getD, List.getElem?_eq_getElem hk4]; rfl)
        have NX : Hid (T.getD k 0 = L.getD k 0 → T.take (k + 1) = L.take (k + 1)) := Lib.hid (take_next TK.out hk5 hk4)
        have NE : Hid (¬ T.getD k 0 = L.getD k 0 → ¬ T = L) := Lib.hid take_ne
        have TRK : Hid (∀ u, OldB wr u → Calls Tryz.prog 90 #[.slice A n c, .agg xw.toArray, .int .i64 (k : Int)] u fun e w' => e = .returned (.bool (decide (0 < T.getD k 0))) ∧ Below u.heap.size u w') := Lib.hid (fun u hu => TR.out k u (OV.out.then hu) hlt)
        generalize T.getD k 0 = y at *
        generalize L.getD k 0 = z at *
        clear hc2 TK hk3 hk4 hk5
        by_cases hyz : y = z
        · subst hyz
          have q0 : ∀ u, OldB wr u → u.cell? ⟨b, off + k * 2, none⟩ = some (.int .i64 (k : Int)) := fun u hu => (World.cell?_of_block (w := wr) (hu.block b hb)).trans c0
          have q1 : ∀ u, OldB wr u → u.cell? ⟨b, off + k * 2 + 1, none⟩ = some (.int .i64 y) := fun u hu => (World.cell?_of_block (w := wr) (hu.block b hb)).trans c1
          have q2 : ∀ u, OldB wr u → u.cell? ⟨b2, off2 + k, none⟩ = some (.int .i64 y) := fun u hu => (World.cell?_of_block (w := wr) (hu.block b2 hb2)).trans c2
          have RWX : Hid (∀ u, OldB wr u → u.rangeAt bw 0 xw) := Lib.hid (fun u hu => RW.out u (OV.out.then hu))
          clear c0 c1 c2 NE
          go_upto_region 5 with fail
          (refine wp_region_noPanic ?_; refine wp_region_held_drew (S := (OldB wr)) (by kernel_rfl) ?_ (fun hHeld => ?_); exact Below.drew (Below.refl _ _))
          (refine tkW 0 ?_; try simp only [gmS])
          (refine tkW 1 ?_; try simp only [gmS])
          (refine tkW 2 ?_; try simp only [gmS])
          (refine tkW 3 ?_; try simp only [gmS])
          (refine tkW 4 ?_; try simp only [gmS])
          (refine tkW 5 ?_; try simp only [gmS])
          (refine tkW 6 ?_; try simp only [gmS])
          (refine tkW 7 ?_; try simp only [gmS])
          (refine tkW 8 ?_; try simp only [gmS])
          (refine tkW 9 ?_; try simp only [gmS])
          (refine tkW 10 ?_; try simp only [gmS])
          (refine tkW 11 ?_; try simp only [gmS])
          (refine tkW 12 ?_; try simp only [gmS])
          (refine ldW 13 38 (.tmp 4) bw 0 xw _ RWX.out Tryz.underlying38 SZH.out ?_; try simp only [gmS])
          (refine tkW 14 ?_; try simp only [gmS])
          (refine tkW 16 ?_; try simp only [gmS])
          (refine tkW 17 ?_; try simp only [gmS])
          (refine tkW 18 ?_; try simp only [gmS])
          (refine tkW 19 ?_; try simp only [gmS])
          (refine tkW 20 ?_; try simp only [gmS])
          refine rdR 15 (fun K hK => ?_)
          go_simp
          (with_reducible refine (TRK.out _ hHeld).mono ?_)
          rintro e z1 ⟨rfl, t1⟩
          (refine hK.out _ _ (OldB.then hHeld t1) (fun hHeld2 => ?_); clear hK K hHeld; have hHeld := hHeld2; clear hHeld2; try simp only [gmS])
          (refine tkW 21 ?_; try simp only [gmS])
          (refine tkW 22 ?_; try simp only [gmS])
          have OF : Hid (OldB u1 z1) := Lib.hid (OldB.then OH.out hHeld)
          (refine wpAnyH_done (by kernel_rfl) ?_ _; refine NoPanic.normal ?_)
          have NX2 : Hid (T.take (k + 1) = L.take (k + 1)) := Lib.hid (NX.out rfl)
          clear hHeld q0 q1 q2
          cases hp : decide (0 < y)
          · go_wp2_with fail
            exact ⟨⟨k + 1, by omega, by omega, by go_num, NX2, OF⟩, by simp [intOf]; omega⟩
          · go_wp2_with fail
            exact ⟨⟨k + 1, by omega, by omega, by go_num, NX2, OF⟩, by simp [intOf]; omega⟩
        · have g1 : (y == z) = false := by simpa using hyz
          have RF : Hid (decide (T = L) = false) := Lib.hid (decide_eq_false (NE.out hyz))
          have FB : Hid (Below w.heap.size w wr) := Lib.hid (BA.out _ OV.out)
          clear hyz NE NX TRK TR RW RL
          go_wp2_with fail
          go_quiet (fail)
          go_wp2_with fail
          go_ret
          exact ⟨by rw [RF.out]; rfl, below_drewN FB.out _⟩
      · have d2 : ¬ (k : Int) < (m : Int) := by omega
        have g1 : ((nk : Int) == (m : Int)) = false := by simp; omega
        have RF : Hid (decide (T = L) = false) := Lib.hid (decide_eq_false (fun e => by
          have e1 := LT.out
          have e2 := M2.out
          rw [e] at e1
          omega))
        have FB : Hid (Below w.heap.size w wr) := Lib.hid (BA.out _ OV.out)
        clear TR RW RL
        go_wp2_with fail
        go_ret
        exact ⟨by rw [RF.out]; rfl, FB.out⟩
    · obtain rfl : nk = k := by omega
      have d1 : ¬ (nk : Int) < (nk : Int) := by omega
      have FB : Hid (Below w.heap.size w wr) := Lib.hid (BA.out _ OV.out)
      by_cases hnm : nk = m
      · subst hnm
        have g1 : ((nk : Int) == (nk : Int)) = true := by simp
        have RF : Hid (decide (T = L) = true) := Lib.hid (decide_eq_true (by
          have := TK.out
          rw [List.take_of_length_le (by rw [LT.out]; exact Nat.le_refl _), List.take_of_length_le (by rw [← M2.out]; exact Nat.le_refl _)] at this
          exact this))
        clear TR RW RL
        go_wp2_with fail
        go_ret
        exact ⟨by rw [RF.out]; rfl, FB.out⟩
      · have g1 : ((nk : Int) == (m : Int)) = false := by simp; omega
        have RF : Hid (decide (T = L) = false) := Lib.hid (decide_eq_false (fun e => by
          have e1 := LT.out
          have e2 := M2.out
          rw [e] at e1
          omega))
        clear TR RW RL
        go_wp2_with fail
        go_ret
        exact ⟨by rw [RF.out]; rfl, FB.out⟩
end Go.Proofs.YtniklmikdkjgiaaGreatDoor
namespace Go.Proofs.YtniklmikdkjgiaaGreatDoor
open Go.RowKit
theorem markR_is (a : Int) (t : Tx) (y : Bool) (w : World) : RvIs w (markR a t y) :=
  ⟨sl_nil w, ⟨none, 0, rfl, es_nil w⟩, zeroSl_is w, sl_nil w, sl_nil w, zeroSl_is w⟩
theorem markR_sz {a : Int} {t : Tx} {y : Bool} (ht : t.length ≤ 1000000) : RcSz (markR a t y).c :=
  ⟨Nat.le_of_ble_eq_true rfl, ht, Nat.zero_le _, Nat.zero_le _, Nat.zero_le _, Nat.zero_le _, (fun _ h => by cases h), Nat.zero_le _, (fun _ h => by cases h), Nat.zero_le _, zeroSe_sz, zeroSe_sz⟩
theorem mark_any (a : Int) (t : Tx) (y : Bool) (w : World) :
    Calls Tryz.prog 87 #[.int .i64 a, .string (mkB t), .bool y] w fun e w' => e = .returned (.agg (rvL (markR a t y)).toArray) ∧ Below w.heap.size w w' := by
  obtain ⟨cs, hcs⟩ : ∃ cs, cs = rvL (markR a t y) := ⟨_, rfl⟩
  have ONE : cs.toArray.all (·.oneCell') = true := by rw [hcs]; simp [rvL, markR, zeroSl, Value.oneCell']
  have ZA : (Tryz.prog.info? 56).map (·.size) = some cs.toArray.size := by rw [hcs]; kernel_rfl
  have ZL : (Tryz.prog.info? 56).map (·.size) = some cs.length := by rw [hcs]; kernel_rfl
  have NA : cs.toArray.size ≤ 21 := by rw [hcs]; exact Nat.le_refl 21
  have NL : cs.length = 21 := by rw [hcs]; rfl
  obtain ⟨W, hW⟩ : ∃ W, W = w.alloc (.cells #[.int .i64 0, .int .i64 0, .int .i64 0, .int .i64 0, .string ⟨#[]⟩, .slice none 0 0, .slice none 0 0, .string ⟨#[]⟩, .bool false, .int .i64 0, .string ⟨#[]⟩, .int .i64 0, .slice none 0 0, .slice none 0 0, .string ⟨#[]⟩, .string ⟨#[]⟩, .slice none 0 0, .slice none 0 0, .int .i64 0, .slice none 0 0, .slice none 0 0] 56) := ⟨_, rfl⟩
  have XZ : W.heap[w.heap.size]? = some (.cells #[.int .i64 0, .int .i64 0, .int .i64 0, .int .i64 0, .string ⟨#[]⟩, .slice none 0 0, .slice none 0 0, .string ⟨#[]⟩, .bool false, .int .i64 0, .string ⟨#[]⟩, .int .i64 0, .slice none 0 0, .slice none 0 0, .string ⟨#[]⟩, .string ⟨#[]⟩, .slice none 0 0, .slice none 0 0, .int .i64 0, .slice none 0 0, .slice none 0 0] 56 (0, 0)) := by rw [hW]; exact heap_alloc_new w _
  have BW : Below w.heap.size w W := by rw [hW]; exact (Below.refl _ _).alloc (Nat.le_refl _) _
  have RG := range_setCells (cs := cs.toArray) XZ (by rw [List.size_toArray, NL]; rfl)
  rw [List.toList_toArray] at RG
  have BB : Below w.heap.size w (W.setCells w.heap.size 0 cs) := below_setCells (w' := W) w.heap.size cs 0 W BW (Nat.le_refl _)
  have LV := run_loadVar_mid (P := Tryz.prog) (W.setCells w.heap.size 0 cs) w.heap.size 0 56 cs _ RG Tryz.underlying56 rfl ZL
  have HC := Lib.hid hcs
  have HW := Lib.hid hW
  have BBH := Lib.hid BB
  have TH := Lib.hid (there_of_row XZ (show cs.toArray.size ≤ 21 from NA))
  rw [← hcs]
  clear BB BW XZ RG hcs hW
  go_enter Tryz.func87, Tryz.ntmps87
  go_wp2_with (rw [← HW.out]; refine wpList_store_mid rfl 56 (.tmp 6) (.tmp 10) rfl w.heap.size 0 cs.toArray rfl (by rw [HC.out]; rfl) TH.out ZA ONE ?_; rw [List.toList_toArray])
  exact bodyPost_ret (v := .agg cs.toArray) (results_cell1 (i := 6) (t := 56) rfl rfl LV) rfl ⟨rfl, BBH.out⟩
theorem own_lit30 {u : World} {B n : Nat} {T : TypeId} {cs : Array Value} (hb : B ≤ u.heap.size) (hn : cs.size = n) (hm : n ≤ 1000) : (u.alloc (.cells cs T)).ownsRow B T 1 (.slice (some ⟨u.heap.size, 0, none⟩) n n) n cs.toList :=
  ⟨by rw [Array.length_toList]; omega, .inr ⟨u.heap.size, n, cs, rfl, hb, heap_alloc_new u _, Nat.le_refl _, by unfold maxLen; omega, by omega, by rw [List.take_of_length_le (by rw [Array.length_toList]; omega)]⟩⟩
def chsL (vs : List Value) : List RV := (List.range vs.length).map fun (i : Nat) => chgK ((i : Int) + 1) (vs.getD i (.slice none 0 0))
theorem chsL_snoc (vs : List Value) (v : Value) : chsL (vs ++ [v]) = chsL vs ++ [chgK ((vs.length : Int) + 1) v] := by
  unfold chsL
  rw [List.length_append, List.length_singleton, List.range_succ, List.map_append]
  congr 1
  · apply List.map_congr_left
    intro i hi
    have hi := List.mem_range.1 hi
    rw [List.getD_eq_getElem?_getD, List.getD_eq_getElem?_getD, List.getElem?_append_left hi]
  · simp [List.getD_eq_getElem?_getD]
theorem chsL_3 (v1 v2 v3 : Value) : chsL [v1, v2, v3] = [chgK 1 v1, chgK 2 v2, chgK 3 v3] := rfl
theorem idC_chg (k : Int) (v : Value) : idC (chgK k v).c = idK k := by
  unfold idK
  exact congrArg idC (show (chgK k v).c = kC k from rfl)
def idsL (k : Nat) : List Tx := [] :: (List.range k).map fun (i : Nat) => idK ((i : Int) + 1)
theorem idsL_succ (k : Nat) : strsC (idsL (k + 1)) = strsC (idsL k) ++ [.string (mkB (idK ((k : Int) + 1)))] := by
  unfold idsL strsC
  rw [List.range_succ, List.map_append]
  simp
theorem idsL_3 : idsL 3 = [[], idK 1, idK 2, idK 3] := by
  unfold idsL
  rw [List.range_succ, List.range_succ, List.range_succ, List.range_zero]
  rfl
theorem chgK_is {w : World} {k : Int} {g : Nat} (h : w.heap[g]? = some (.cells (evL (dropE nT)).toArray 93 (0, 0))) : RvIs w (chgK k (.slice (some ⟨g, 0, none⟩) 1 1)) :=
  mod_is ⟨_, _, rfl, drop_es h (by decide)⟩
theorem chgK_sz (k : Int) (v : Value) : RcSz (chgK k v).c := mod_sz (by decide)
theorem grown_keepT {w w' : World} {row : Option Nat} {g : Nat} {cs : Array Value} {t T : TypeId} (hg : w.grownBy w' row) (h : w.heap[g]? = some (.cells cs t (0, 0))) (hn : ∀ q, row = some q → ∃ cur, w.heap[q]? = some (.cells cur T (0, 0))) (hT : T ≠ t) : w'.heap[g]? = some (.cells cs t (0, 0)) := by
  refine (hg.block g (lt_of_block h) (fun e => ?_)).trans h
  obtain ⟨cur, hc⟩ := hn g e.symm
  rw [h] at hc
  injection hc with hc
  injection hc with _ hc
  exact hT hc.symm
def EdsK (w : World) (vs : List Value) : Prop := ∀ v ∈ vs, ∃ g, v = .slice (some ⟨g, 0, none⟩) 1 1 ∧ w.heap[g]? = some (.cells (evL (dropE nT)).toArray 93 (0, 0))
theorem EdsK.keep {w w' : World} {vs : List Value} (h : EdsK w vs) (hb : Below w.heap.size w w') : EdsK w' vs := fun v hv => by
  obtain ⟨g, e, hg⟩ := h v hv
  exact ⟨g, e, (hb.block g (lt_of_block hg)).trans hg⟩
theorem EdsK.grown {w w' : World} {vs : List Value} {row : Option Nat} {T : TypeId} (h : EdsK w vs) (hg : w.grownBy w' row) (hn : ∀ q, row = some q → ∃ cur, w.heap[q]? = some (.cells cur T (0, 0))) (hT : T ≠ 93) : EdsK w' vs := fun v hv => by
  obtain ⟨g, e, h1⟩ := h v hv
  exact ⟨g, e, grown_keepT hg h1 hn hT⟩
theorem changes_any (w : World) (ht : Tab w) :
    Calls Tryz.prog 86 #[] w fun e w' => ∃ A c A3 c3 v1 v2 v3, e = .returned (.tuple #[.slice A 3 c, .slice A3 4 c3]) ∧ Rs w' A [chgK 1 v1, chgK 2 v2, chgK 3 v3] ∧ Rd w' A3 (strsC [[], idK 1, idK 2, idK 3]) ∧ Below w.heap.size w w' := by
  have TT : Hid (∀ u, Below w.heap.size w u → Tab u) := Lib.hid (fun u hu => ht.keep hu)
  obtain ⟨W1, hW1⟩ : ∃ W1, W1 = w.alloc (.cells #[.string ⟨#[]⟩] 9) := ⟨_, rfl⟩
  have B1 : Below w.heap.size w W1 := by rw [hW1]; exact (Below.refl _ _).alloc (Nat.le_refl _) _
  have O2 : Hid (W1.ownsRow w.heap.size 56 21 (.slice none 0 0) 0 (rvsL (chsL []))) := Lib.hid (World.ownsRow_nil _ _ _ _)
  have O3 : Hid (W1.ownsRow w.heap.size 9 1 (.slice (some ⟨w.heap.size, 0, none⟩) 1 1) 1 (strsC (idsL 0))) := Lib.hid (by rw [hW1]; exact own_lit30 (Nat.le_refl _) rfl (by decide))
  have BH := Lib.hid B1
  have HW1 := Lib.hid hW1
  have E0 : Hid (EdsK W1 []) := Lib.hid (fun _ h => by cases h)
  clear ht B1 hW1
  go_enter Tryz.func86, Tryz.ntmps86
  go_upto_region 3 with fail
  rw [← HW1.out]
  go_wp2_with fail
  go_loopw [2, 3, 4, 5] (fun s2 s3 s4 s5 wr => ∃ k : Nat, k ≤ 3 ∧ s4 = .int .i64 ((k : Int) + 1) ∧ (∃ p, s5 = p) ∧ ∃ vs : List Value, vs.length = k ∧ Hid (EdsK wr vs) ∧ Hid (wr.ownsRow w.heap.size 56 21 s2 k (rvsL (chsL vs))) ∧ Hid (wr.ownsRow w.heap.size 9 1 s3 (k + 1) (strsC (idsL k))) ∧ Hid (Below w.heap.size w wr)) (fun _ _ i _ _ => 4 - (intOf i).toNat)
  case atStart => exact ⟨0, Nat.zero_le _, rfl, ⟨_, rfl⟩, [], rfl, E0, O2, O3, BH⟩
  case round =>
    clear E0 O2 O3 BH
    obtain ⟨k, hk, rfl, ⟨p5, rfl⟩, vs, hvs, HE, OW2, OW3, HB⟩ := hrel
    by_cases hlt : k < 3
    · have d1 : (k : Int) + 1 ≤ 3 := by omega
      obtain ⟨r, hr⟩ : ∃ r, r = chgK ((k : Int) + 1) (.slice (some ⟨wr.heap.size, 0, none⟩) 1 1) := ⟨_, rfl⟩
      obtain ⟨e15, he15⟩ : ∃ q, q = (evL (dropE nT)).toArray := ⟨_, rfl⟩
      obtain ⟨X1, hX1⟩ : ∃ X, X = wr.alloc (.cells e15 93) := ⟨_, rfl⟩
      obtain ⟨X2, hX2⟩ : ∃ X, X = X1.alloc (.cells (rvL r).toArray 56) := ⟨_, rfl⟩
      have BX1 : Below wr.heap.size wr X1 := by rw [hX1]; exact (Below.refl _ _).alloc (Nat.le_refl _) _
      have BX2 : Below X1.heap.size X1 X2 := by rw [hX2]; exact (Below.refl _ _).alloc (Nat.le_refl _) _
      have zX1 : X1.heap.size = wr.heap.size + 1 := by rw [hX1]; simp
      have XE1 : X1.heap[wr.heap.size]? = some (.cells (evL (dropE nT)).toArray 93 (0, 0)) := by rw [hX1, he15]; exact heap_alloc_new wr _
      have XE2 : X2.heap[wr.heap.size]? = some (.cells (evL (dropE nT)).toArray 93 (0, 0)) := (BX2.block _ (lt_of_block XE1)).trans XE1
      have XR2 : X2.heap[wr.heap.size + 1]? = some (.cells (rvL r).toArray 56 (0, 0)) := by rw [hX2, ← zX1]; exact heap_alloc_new X1 _
      have BX : Below wr.heap.size wr X2 := BX1.trans (BX2.mono (by omega))
      have ONE := Lib.hid (rvL_one r ⟨X2, by rw [hr]; exact chgK_is XE2⟩)
      have FS := Lib.hid (fun z (hz : z.length = 21) => setCells_fresh X1 z (rvL r) hz rfl ONE.out)
      have RX2 : Hid (X2.rangeAt (wr.heap.size + 1) 0 (rvL r)) := Lib.hid (by have := range_of_row XR2; simpa using this)
      have EK2 : EdsK X2 (vs ++ [.slice (some ⟨wr.heap.size, 0, none⟩) 1 1]) := fun v hv => by
        rcases List.mem_append.1 hv with hv | hv
        · exact (HE.out.keep BX) v hv
        · rw [List.mem_singleton] at hv
          exact ⟨_, hv, XE2⟩
      have OW2X := Lib.hid (own_below OW2.out BX (Nat.le_refl _))
      have OW3X := Lib.hid (own_below OW3.out BX (Nat.le_refl _))
      have own2lt : Hid (∀ g, u2.ownBlock = some g → g < wr.heap.size) := Lib.hid (fun g hg => (OW2.out.lt g hg).2)
      have BWX := Lib.hid (HB.out.trans (BX.mono HB.out.size))
      have EK := Lib.hid EK2
      have TH := Lib.hid (there_of_row (heap_alloc_new X1 (.cells zRow.toArray 56)) (Nat.le_refl 21))
      have XRH := Lib.hid XR2
      have HX1 := Lib.hid hX1
      have HX2 := Lib.hid hX2
      have ZX1 := Lib.hid zX1
      have HR := Lib.hid hr
      have HE15 : Hid ((#[.int .i64 5, .string ⟨#[110]⟩, .string ⟨#[]⟩, .string ⟨#[]⟩, .int .i64 0, .int .i64 0, .string ⟨#[]⟩, .string ⟨#[]⟩, .slice none 0 0, .string ⟨#[]⟩, .int .i64 0, .int .i64 0, .int .i64 0, .slice none 0 0, .slice none 0 0] : Array Value) = e15) := Lib.hid (by rw [he15]; rfl)
      have HE21 : Hid ((#[.int .i64 1, .int .i64 ((k : Int) + 1), .int .i64 1, .int .i64 1, .string ⟨#[109, 97, 105, 110]⟩, .slice none 0 0, .slice (some ⟨wr.heap.size, 0, none⟩) 1 1, .string ⟨#[]⟩, .bool false, .int .i64 0, .string ⟨#[]⟩, .int .i64 0, .slice none 0 0, .slice none 0 0, .string ⟨#[]⟩, .string ⟨#[]⟩, .slice none 0 0, .slice none 0 0, .int .i64 0, .slice none 0 0, .slice none 0 0] : Array Value) = (rvL r).toArray) := Lib.hid (by rw [hr]; rfl)
      have HXX : Hid (X2 = (wr.alloc (.cells e15 93)).alloc (.cells (rvL r).toArray 56)) := Lib.hid (by rw [hX2, hX1])
      have IDR : Hid (idC r.c = idK ((k : Int) + 1)) := Lib.hid (by rw [hr]; exact idC_chg _ _)
      have bz := BWX.out.size
      clear BX1 BX2 zX1 XE1 XE2 XR2 BX EK2 hX1 hX2 OW2 OW3 HE HB hr
      go_upto_region 7 with (rw [HE15.out, ← HX1.out]; refine wpList_store_mid rfl 56 (.tmp 5) (.tmp 14) rfl X1.heap.size 0 (rvL r).toArray (by first | rfl | (rw [ZX1.out]; rfl)) (by rw [HR.out]; rfl) TH.out (mrec_szA r) ONE.out ?_; rw [List.toList_toArray, FS.out _ rfl, ← HX2.out])
      rw [HE21.out]
      clear HE21 HE15 HXX HX1 HX2
      go_wp2_with (first
        | (refine wpList_load_mid rfl 56 (.tmp 5) rfl (wr.heap.size + 1) 0 rfl (rvL r) _ RX7.out Tryz.underlying56 rfl (mrec_szL r) ?_)
        | (refine wpList_load_mid rfl 56 (.tmp 5) rfl (wr.heap.size + 1) 0 rfl (rvL r) _ RX2.out Tryz.underlying56 rfl (mrec_szL r) ?_)
        | (refine wpList_recs rfl [r] 1 _ rfl rfl (by decide) (by decide) (by kernel_rfl) ?_; rw [rvsL_one])
        | (at_builtin; refine wpList_appNG rfl (.tmp 15) (.tmp 17) 22 rfl Tryz.underlying22 info_rec rfl (by decide) w.heap.size _ k (rvsL (chsL vs)) (rvL r).toArray 1 (by decide) rfl (by intro y hy; exact (Array.all_eq_true_iff_forall_mem.1 ONE.out) y (by simpa using hy)) rfl rfl rfl OW2X.out bz (by omega) (by omega) ?_; intro g7 c7 w7 ho7 hg7 hl7 hb7; have RX7 : Hid (w7.rangeAt (wr.heap.size + 1) 0 (rvL r)) := Lib.hid (fun j v hj => (World.cell?_of_block (w := X2) (hg7.block _ (lt_of_block XRH.out) (fun e => by have := own2lt.out (wr.heap.size + 1) e.symm; omega))).trans (RX2.out j v hj))))
      have B7 := Lib.hid (BWX.out.trans hb7)
      have E7 := Lib.hid (EK.out.grown hg7 (fun q hq => (own_cells OW2X.out hq).2) (by decide))
      have IDC := Lib.hid (id_any r w7 (by rw [HR.out]; exact chgK_is (by
        obtain ⟨g, e1, e2⟩ := E7.out (.slice (some ⟨wr.heap.size, 0, none⟩) 1 1) (by simp)
        injection e1 with e1
        injection e1 with e1
        injection e1 with e1
        rw [e1]; exact e2)) (by rw [HR.out]; exact chgK_sz _ _) (TT.out w7 B7.out))
      unfold rvA at IDC
      have OW3U : Hid (w7.ownsRow w.heap.size 9 1 u3 (k + 1) (strsC (idsL k))) := Lib.hid (own_sameG OW3X.out (fun g hg => hg7.block g (OW3X.out.lt g hg).2 (fun e => by
        obtain ⟨cu, h1⟩ := (own_cells OW3X.out hg).2
        obtain ⟨cv, h2⟩ := (own_cells OW2X.out e.symm).2
        rw [h1] at h2
        injection h2 with h2
        injection h2 with _ h2
        exact absurd h2 (by decide))))
      have O27 := Lib.hid ho7
      clear ho7 hg7 hb7 OW2X OW3X EK RX2 RX7 XRH FS TH
      (with_reducible refine IDC.out.mono ?_)
      rintro e u8 ⟨rfl, b8⟩
      rw [IDR.out]
      have B8 := Lib.hid (B7.out.trans (b8.mono B7.out.size))
      have bz8 := B8.out.size
      have E8 := Lib.hid (E7.out.keep b8)
      have OW38 := Lib.hid (own_below OW3U.out b8 (Nat.le_refl _))
      have OW28 := Lib.hid (own_below O27.out b8 (Nat.le_refl _))
      clear b8 IDC O27 OW3U E7
      go_wp2_with (at_builtin; refine wpList_appNG rfl (.tmp 19) (.tmp 22) 35 rfl Tryz.underlying35 info_strG rfl (by decide) w.heap.size _ (k + 1) (strsC (idsL k)) _ 1 (by decide) rfl (by intro y hy; simp at hy; rw [hy]; rfl) rfl rfl rfl OW38.out bz8 (by omega) (by omega) ?_; intro g9 c9 w9 ho9 hg9 hl9 hb9)
      refine ⟨⟨k + 1, by omega, by go_num, ⟨_, rfl⟩, vs ++ [.slice (some ⟨wr.heap.size, 0, none⟩) 1 1], by rw [List.length_append, hvs]; rfl, Lib.hid (E8.out.grown hg9 (fun q hq => (own_cells OW38.out hq).2) (by decide)), Lib.hid ?_, Lib.hid ?_, Lib.hid (B8.out.trans hb9)⟩, by simp [intOf]; omega⟩
      · rw [chsL_snoc, rvsL_app, rvsL_one, hvs, ← HR.out]
        exact own_sameG OW28.out (fun g hg => hg9.block g (OW28.out.lt g hg).2 (fun e => by
          obtain ⟨cu, h1⟩ := (own_cells OW28.out hg).2
          obtain ⟨cv, h2⟩ := (own_cells OW38.out e.symm).2
          rw [h1] at h2
          injection h2 with h2
          injection h2 with _ h2
          exact absurd h2 (by decide)))
      · rw [idsL_succ]
        exact ho9
    · obtain rfl : k = 3 := by omega
      have d1 : ¬ ((3 : Nat) : Int) + 1 ≤ 3 := by omega
      obtain ⟨v1, v2, v3, rfl⟩ : ∃ v1 v2 v3, vs = [v1, v2, v3] := by
        match vs, hvs with
        | [a, b, c], _ => exact ⟨a, b, c, rfl⟩
      rw [chsL_3] at OW2
      rw [idsL_3] at OW3
      obtain ⟨A2, c2, rfl, hR2, -⟩ := own_slG OW2.out
      obtain ⟨A3, c3, rfl, hR3, -⟩ := own_slG OW3.out
      have PF : Hid (Rs wr A2 [chgK 1 v1, chgK 2 v2, chgK 3 v3] ∧ Rd wr A3 (strsC [[], idK 1, idK 2, idK 3])) := Lib.hid ⟨⟨hR2, fun r hr => by
        have hv : ∀ v, v ∈ [v1, v2, v3] → ∀ q, RvIs wr (chgK q v) := fun v hv q => by
          obtain ⟨g, rfl, hg⟩ := HE.out v hv
          exact chgK_is hg
        simp only [List.mem_cons, List.not_mem_nil, or_false] at hr
        rcases hr with rfl | rfl | rfl
        · exact hv _ (by simp) _
        · exact hv _ (by simp) _
        · exact hv _ (by simp) _, fun r hr => by
        simp only [List.mem_cons, List.not_mem_nil, or_false] at hr
        rcases hr with rfl | rfl | rfl <;> exact chgK_sz _ _, by show 3 ≤ 100000; decide⟩, hR3⟩
      have B9 := Lib.hid HB.out
      clear hR2 hR3 HE OW2 OW3 HB
      go_wp2_with fail
      go_ret2
      exact ⟨A2, c2, A3, ⟨c3, rfl⟩, ⟨v1, v2, v3, PF.out.1⟩, PF.out.2, B9.out⟩
end Go.Proofs.YtniklmikdkjgiaaGreatDoor
namespace Go.Proofs.YtniklmikdkjgiaaGreatDoor
open Go.RowKit Go.Shelf Go.Maps Go.ChangeMaps Go.MapKept Go.WideShapes Go.WideMaps
def condW (d : GD) (m : Nat) (k : Nat) : Bool := decide (0 ≤ (m : Int)) && decide ((m : Int) < (d.n : Int)) && decide (0 < (lvD d).getD k 0) && decide ((lvD d).getD k 0 < (lvD d).getD (m : Int).toNat 0) && decide (1 < (lvD d).getD (m : Int).toNat 0) && d.C k (m : Int).toNat
def whyU (d : GD) (m k : Nat) : List Nat := (List.range k).filter (condW d m)
theorem whyU_succ (d : GD) (m k : Nat) : whyU d m (k + 1) = whyU d m k ++ if condW d m k = true then [k] else [] := by
  unfold whyU
  rw [List.range_succ, List.filter_append]
  congr 1
  by_cases h : condW d m k = true
  · rw [if_pos h]; simp [h]
  · rw [if_neg h]; simp [h]
theorem whyU_le (d : GD) (m k : Nat) : (whyU d m k).length ≤ k := by
  have := List.length_filter_le (condW d m) (List.range k)
  rw [List.length_range] at this
  exact this
theorem natsL_snoc (l : List Nat) (k : Nat) : natsL (l ++ [k]) = natsL l ++ [.int .i64 (k : Int)] := by simp [natsL]
theorem why_any (A : Option Addr) (n c : Nat) (l : List RV) (x : WoV) (m : Nat) (w : World) (hn : n = l.length) (h : Rs w A l) (hx : WoIs w x) (hm : x.mods.length ≤ 1000000) (hk : x.keys.length ≤ 1000) (ht : Tab w) (hmn : m < x.keys.length) :
    Calls Tryz.prog 88 #[.slice A n c, woA x, .int .i64 (m : Int)] w fun e w' => ∃ v, e = .returned v ∧ SlIs w' v (whyU (gdT x l) m x.keys.length).length (natsL (whyU (gdT x l) m x.keys.length)) ∧ Below w.heap.size w w' := by
  obtain ⟨V, hV⟩ : ∃ V, V = w.alloc (.cells (woL x).toArray 38) := ⟨_, rfl⟩
  obtain ⟨bw, hbw⟩ : ∃ bw, w.heap.size = bw := ⟨_, rfl⟩
  have BV : Below w.heap.size w V := by rw [hV]; exact (Below.refl _ _).alloc (Nat.le_refl _) _
  have RV0 : V.rangeAt bw 0 (woL x) := by have := range_of_row (show V.heap[bw]? = some (.cells (woL x).toArray 38 (0, 0)) by rw [hV, ← hbw]; exact heap_alloc_new w _); simpa using this
  have EC := tof_any A n c l x V hn (h.below BV) (hx.below BV) hm hk (ht.keep BV)
  have SZ := mwo_szL x
  have LL : Hid ((lvD (gdT x l)).length = x.keys.length) := Lib.hid (levels_fin _ _ _ _).len
  unfold woA at EC ⊢
  have GN : Hid ((gdT x l).n = x.keys.length) := Lib.hid rfl
  generalize gdT x l = gd at *
  generalize woL x = xw at *
  generalize x.keys.length = nk at *
  have X0 := Lib.hid hV
  have X1 := Lib.hid hbw
  have ECH := Lib.hid EC
  have R0 := Lib.hid RV0
  have BVH := Lib.hid BV
  have SZH := Lib.hid SZ
  clear h hx hm ht hV hbw EC RV0 BV hn SZ
  go_enter Tryz.func88, Tryz.ntmps88
  go_upto_region 1 with fail
  rw [← X0.out, X1.out]
  clear X0
  go_wp2_with (refine wpList_load_mid rfl 38 (.tmp 4) rfl bw 0 rfl xw _ R0.out Tryz.underlying38 rfl SZH.out ?_)
  (with_reducible refine ECH.out.mono ?_)
  rintro e u1 ⟨p, rfl, gr, pl, b1⟩
  have B1 : Hid (Below w.heap.size w u1) := Lib.hid (BVH.out.trans (b1.mono BVH.out.size))
  have LV := Lib.hid (levels_any u1 p gd gr pl)
  have GR := Lib.hid gr
  have PL := Lib.hid pl
  clear gr pl b1 ECH R0 SZH
  go_wp2_with fail
  (with_reducible refine LV.out.mono ?_)
  rintro e u2 ⟨v, rfl, ⟨A2, c2, rfl, hR⟩, b2⟩
  rw [GN.out]
  have RH : Hid (Rd u2 A2 (intsL (lvD gd))) := Lib.hid hR
  have B2 : Hid (Below w.heap.size w u2) := Lib.hid (B1.out.trans (b2.mono B1.out.size))
  have G2 : Hid (∀ u, OldB u2 u → GrAt u p gd) := Lib.hid (fun u hu => GR.out.below PL.out (b2.trans (Below.mono hu b2.size)))
  have S0 : Hid (u2.ownsRow u2.heap.size 3 1 (.slice none 0 0) (whyU gd m 0).length (natsL (whyU gd m 0))) := Lib.hid (World.ownsRow_nil _ _ _ _)
  have d2 : (0 : Int) ≤ (m : Int) := by omega
  have d3 : (m : Int) < (nk : Int) := by omega
  clear hR b2 LV B1 GR PL
  go_wp2_with fail
  go_loopw [9, 10, 11, 19] (fun s9 s10 s11 s19 wr => ∃ k : Nat, k ≤ nk ∧ s19 = .int .i64 (k : Int) ∧ (∃ p, s10 = p) ∧ (∃ p, s11 = p) ∧ Hid (wr.ownsRow u2.heap.size 3 1 s9 (whyU gd m k).length (natsL (whyU gd m k))) ∧ Hid (OldB u2 wr)) (fun _ _ _ i _ => nk - (intOf i).toNat)
  case atStart => exact ⟨0, Nat.zero_le _, rfl, ⟨_, rfl⟩, ⟨_, rfl⟩, S0, Lib.hid (Below.refl _ _)⟩
  case round =>
    clear S0
    obtain ⟨k, hk, rfl, ⟨p10, rfl⟩, ⟨p11, rfl⟩, OW, OH⟩ := hrel
    by_cases hlt : k < nk
    · have hkl : k < (lvD gd).length := by rw [LL.out]; exact hlt
      have hml : m < (lvD gd).length := by rw [LL.out]; exact hmn
      have d1 : (k : Int) < (nk : Int) := by omega
      have d4 : (0 : Int) ≤ (k : Int) := by omega
      obtain ⟨b, off, rfl, hb, hc⟩ := (RH.out.below OH.out) (by unfold intsL; rw [List.length_map]; omega)
      have ck := hc k (.int .i64 ((lvD gd).getD k 0)) (by unfold intsL; rw [List.getElem?_map, List.getD_eq_getElem?_getD, List.getElem?_eq_getElem hkl]; rfl)
      have cm := hc m (.int .i64 ((lvD gd).getD m 0)) (by unfold intsL; rw [List.getElem?_map, List.getD_eq_getElem?_getD, List.getElem?_eq_getElem hml]; rfl)
      have G := Lib.hid (G2.out wr OH.out)
      have g0 : wr.cell? ⟨p.gp, 0, none⟩ = some (.int .i64 (nk : Int)) := by rw [← GN.out]; exact load_block (i := 0) G.out.g rfl
      have g2 : wr.cell? ⟨p.gp, 2, none⟩ = some (.map (some p.b2)) := load_block (i := 2) G.out.g rfl
      have lk : (Instr.lookup 163 (.map (some p.b2)) (.agg #[.int .i64 (k : Int), .int .i64 (m : Int)]) false).run Tryz.prog wr = .ok (.bool (gd.C k m)) wr := by
        have nz := G.out.nz
        rw [GN.out] at nz
        have := G.out.co.look twoK Tryz.underlying163 (zBool wr) (key_two (a := (k : Int)) (b := (m : Int)) (by omega) (by omega))
        rw [G.out.co1 k m (by rw [GN.out]; exact hlt) (by rw [GN.out]; exact hmn)] at this
        exact this
      have TK : Hid (whyU gd m (k + 1) = whyU gd m k ++ if condW gd m k = true then [k] else []) := Lib.hid (whyU_succ _ _ _)
      have CW : Hid (condW gd m k = (decide (0 < (lvD gd).getD k 0) && decide ((lvD gd).getD k 0 < (lvD gd).getD m 0) && decide (1 < (lvD gd).getD m 0) && gd.C k m)) := Lib.hid (by
        unfold condW
        rw [decide_eq_true d2, decide_eq_true (show (m : Int) < (gd.n : Int) by rw [GN.out]; exact d3)]
        rfl)
      have wl := whyU_le gd m k
      generalize (lvD gd).getD k 0 = y at *
      generalize (lvD gd).getD m 0 = z at *
      generalize gd.C k m = cc at *
      generalize condW gd m k = cw at *
      generalize whyU gd m k = F at *
      have bz : u2.heap.size ≤ wr.heap.size := Below.size OH.out
      clear hc G hkl hml
      by_cases h1 : 0 < y
      · by_cases h2 : y < z
        · by_cases h3 : 1 < z
          · cases cc
            · have T2 : Hid (whyU gd m (k + 1) = F) := Lib.hid (by rw [TK.out, CW.out, Bool.and_false]; simp)
              clear TK CW
              go_wp2_with fail
              exact ⟨⟨k + 1, by omega, by go_num, ⟨_, rfl⟩, ⟨_, rfl⟩, by rw [T2.out]; exact OW, OH⟩, by simp [intOf]; omega⟩
            · have T2 : Hid (whyU gd m (k + 1) = F ++ [k]) := Lib.hid (by rw [TK.out, CW.out, decide_eq_true h1, decide_eq_true h2, decide_eq_true h3]; rfl)
              clear TK CW
              go_wp2_with (at_builtin; refine wpList_appNG rfl (.tmp 63) (.tmp 65) 26 rfl Tryz.underlying26 info_int rfl (by decide) u2.heap.size _ F.length (natsL F) _ 1 (by decide) rfl (by intro y hy; simp at hy; rw [hy]; rfl) rfl rfl rfl OW.out bz (by omega) (by omega) ?_; intro g7 c7 w7 ho7 hg7 hl7 hb7)
              refine ⟨⟨k + 1, by omega, by go_num, ⟨_, rfl⟩, ⟨_, rfl⟩, Lib.hid ?_, Lib.hid (OH.out.trans hb7)⟩, by simp [intOf]; omega⟩
              rw [T2.out, natsL_snoc, List.length_append]
              exact ho7
          · exact absurd (show 1 < z by omega) h3
        · have T2 : Hid (whyU gd m (k + 1) = F) := Lib.hid (by rw [TK.out, CW.out, decide_eq_false h2]; simp)
          clear TK CW
          go_wp2_with fail
          exact ⟨⟨k + 1, by omega, by go_num, ⟨_, rfl⟩, ⟨_, rfl⟩, by rw [T2.out]; exact OW, OH⟩, by simp [intOf]; omega⟩
      · have T2 : Hid (whyU gd m (k + 1) = F) := Lib.hid (by rw [TK.out, CW.out, decide_eq_false h1]; simp)
        clear TK CW
        go_wp2_with fail
        exact ⟨⟨k + 1, by omega, by go_num, ⟨_, rfl⟩, ⟨_, rfl⟩, by rw [T2.out]; exact OW, OH⟩, by simp [intOf]; omega⟩
    · obtain rfl : nk = k := by omega
      have d1 : ¬ (nk : Int) < (nk : Int) := by omega
      have FB : Hid (Below w.heap.size w wr) := Lib.hid (B2.out.trans (Below.mono OH.out B2.out.size))
      obtain ⟨A9, c9, rfl, hR9, -⟩ := own_slG OW.out
      have R9 := Lib.hid hR9
      clear hR9
      go_wp2_with fail
      go_ret
      exact ⟨_, rfl, ⟨_, _, rfl, R9.out⟩, FB.out⟩
end Go.Proofs.YtniklmikdkjgiaaGreatDoor
