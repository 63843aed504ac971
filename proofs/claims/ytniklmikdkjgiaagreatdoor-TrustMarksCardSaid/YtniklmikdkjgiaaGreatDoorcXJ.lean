import Derived.Test.YtniklmikdkjgiaaGreatDoorcXI
set_option linter.all false
set_option maxHeartbeats 16000000
set_option maxRecDepth 100000
namespace Go.Proofs.YtniklmikdkjgiaaGreatDoor
open Go.RowKit
def fewT (t : Tx × Tx) : Bool := decide (t.1.length + t.2.length ≤ 600) || decide (9223372036854775808 ≤ t.1.length + t.2.length)
def fewO (o : At.Ob) : Bool := decide (o.id.length ≤ 300) && decide (o.refs.length ≤ 40) && decide (o.tags.length ≤ 65) && o.refs.all (fun s => decide (s.length ≤ 300)) && o.tags.all fewT
def fewE (e : Ed) : Bool := decide (e.id.length + e.other.length + e.node.length + e.key.length ≤ 300) && decide (e.value.length ≤ 600) && decide (e.refs.length ≤ 40) && fewO e.ob && e.refs.all (fun s => decide (s.length ≤ 300))
def fewEs (l : List Ed) (n : Nat) : Bool := decide (l.length ≤ n) && l.all fewE
def lists1 (l : List Tx) : Bool := decide (l.length ≤ 30) && l.all (fun s => decide (s.length ≤ 300))
def listsB (l : List (List Tx)) : Bool := l.all lists1
def fewR (c : Rc) : Bool := listsB [c.parents, c.sla.sig, c.sla.path, c.priv.sources, c.priv.sla.sig, c.priv.sla.path] && (listsB [[c.branch, c.target, c.frm, c.priv.name, c.priv.reason]] && (decide (c.priv.trace.length ≤ 210) && fewEs c.edits 10))
def fewL (l : List Rc) (n : Nat) : Bool := decide (l.length ≤ n) && l.all fewR
structure EdW (e : Ed) : Prop where
  id : e.id.length ≤ 140737488351232
  other : e.other.length ≤ 140737488351232
  node : e.node.length ≤ 140737488351232
  key : e.key.length ≤ 140737488351232
  oid : e.ob.id.length ≤ 9223372036854775807
  tag : ∀ t ∈ e.ob.tags, t.1.length ≤ 9223372036854775807 ∧ t.2.length ≤ 9223372036854775807
structure EvW (w : World) (e : EV) : Prop where
  is : EvIs w e
  cap : EvCap e
  big : EdW e.c
theorem EvW.below {w w' : World} {e : EV} (h : EvW w e) (hb : Below w.heap.size w w') : EvW w' e := ⟨h.is.below hb, h.cap, h.big⟩
structure EsW (w : World) (A : Option Addr) (l : List EV) : Prop where
  rd : Rd w A (evsL l)
  is : ∀ e ∈ l, EvW w e
theorem EsW.below {w w' : World} {A : Option Addr} {l : List EV} (h : EsW w A l) (hb : Below w.heap.size w w') : EsW w' A l := ⟨h.rd.below hb, fun e he => (h.is e he).below hb⟩
structure RvW (w : World) (r : RV) : Prop where
  pa : SlIs w r.pav r.parents.length (strsC r.parents)
  ed : ∃ A c, r.edv = .slice A r.edits.length c ∧ EsW w A r.edits
  sl : SlvIs w r.sla
  so : SlIs w r.sov r.sources.length (strsC r.sources)
  tr : SlIs w r.trv r.trace.length (ptsL r.trace)
  ps : SlvIs w r.pseal
theorem RvW.below {w w' : World} {r : RV} (h : RvW w r) (hb : Below w.heap.size w w') : RvW w' r := ⟨h.pa.below hb, by obtain ⟨A, c, e, he⟩ := h.ed; exact ⟨A, c, e, he.below hb⟩, h.sl.below hb, h.so.below hb, h.tr.below hb, h.ps.below hb⟩
structure Rw (w : World) (A : Option Addr) (l : List RV) : Prop where
  rd : Rd w A (rvsL l)
  is : ∀ r ∈ l, RvW w r
theorem Rw.below {w w' : World} {A : Option Addr} {l : List RV} (h : Rw w A l) (hb : Below w.heap.size w w') : Rw w' A l := ⟨h.rd.below hb, fun r hr => (h.is r hr).below hb⟩
theorem few_sz {o : At.Ob} (h : fewO o = true) (ht : ∀ t ∈ o.tags, t.1.length ≤ 9223372036854775807 ∧ t.2.length ≤ 9223372036854775807) : ObSz o ∧ o.refs.length ≤ 100000 := by
  unfold fewO at h
  simp only [Bool.and_eq_true, decide_eq_true_eq, List.all_eq_true] at h
  obtain ⟨⟨⟨⟨h1, h2⟩, h3⟩, h4⟩, -⟩ := h
  exact ⟨⟨by omega, by omega, fun s hs => by have := h4 s hs; omega, by omega, ht⟩, by omega⟩
theorem fewE_sz {e : Ed} (h : fewE e = true) (ht : ∀ t ∈ e.ob.tags, t.1.length ≤ 9223372036854775807 ∧ t.2.length ≤ 9223372036854775807) : EdSz e := by
  unfold fewE at h
  simp only [Bool.and_eq_true, decide_eq_true_eq, List.all_eq_true] at h
  obtain ⟨⟨⟨⟨h1, h2⟩, h3⟩, h4⟩, h5⟩ := h
  obtain ⟨k1, k2⟩ := few_sz h4 ht
  exact ⟨by omega, by omega, by omega, by omega, by omega, by omega, fun s hs => by have := h5 s hs; omega, k1, k2⟩
theorem EsW.es {w : World} {A : Option Addr} {l : List EV} (h : EsW w A l) {n : Nat} (hn : n ≤ 100000) (hf : fewEs (edsC l) n = true) : Es w A l := by
  unfold fewEs edsC at hf
  rw [Bool.and_eq_true, decide_eq_true_eq, List.length_map, List.all_eq_true] at hf
  exact ⟨h.rd, fun e he => (h.is e he).is, fun e he => fewE_sz (hf.2 e.c (List.mem_map.2 ⟨e, he, rfl⟩)) (h.is e he).big.tag, fun e he => (h.is e he).cap, by omega⟩
theorem lists1_sz {l : List Tx} (h : lists1 l = true) : l.length ≤ 1000000 ∧ ∀ s ∈ l, s.length ≤ 1000000 := by
  unfold lists1 at h
  simp only [Bool.and_eq_true, decide_eq_true_eq, List.all_eq_true] at h
  exact ⟨by omega, fun s hs => by have := h.2 s hs; omega⟩
theorem RvW.is {w : World} {r : RV} (h : RvW w r) (hf : fewR r.c = true) : RvIs w r ∧ RcSz r.c := by
  unfold fewR listsB at hf
  simp only [Bool.and_eq_true, decide_eq_true_eq, List.all_cons, List.all_nil, and_true] at hf
  obtain ⟨⟨f1, f2, f3, f4, f5, f6⟩, g, ht, he⟩ := hf
  have g1 := (lists1_sz g).2
  have q := fun s (hs : s ∈ [r.c.branch, r.c.target, r.c.frm, r.c.priv.name, r.c.priv.reason]) => g1 s hs
  obtain ⟨A, c, e, hE⟩ := h.ed
  exact ⟨⟨h.pa, ⟨A, c, e, hE.es (by decide) he⟩, h.sl, h.so, h.tr, h.ps⟩, ⟨q _ (by simp), q _ (by simp), q _ (by simp), q _ (by simp), q _ (by simp), (lists1_sz f1).1, (lists1_sz f1).2, (lists1_sz f4).1, (lists1_sz f4).2, by omega, ⟨(lists1_sz f2).1, (lists1_sz f2).2, (lists1_sz f3).1, (lists1_sz f3).2⟩, ⟨(lists1_sz f5).1, (lists1_sz f5).2, (lists1_sz f6).1, (lists1_sz f6).2⟩⟩⟩
theorem Rw.rs {w : World} {A : Option Addr} {l : List RV} (h : Rw w A l) {n : Nat} (hn : n ≤ 100000) (hf : fewL (rcsC l) n = true) : Rs w A l := by
  unfold fewL rcsC at hf
  rw [Bool.and_eq_true, decide_eq_true_eq, List.length_map, List.all_eq_true] at hf
  exact ⟨h.rd, fun r hr => ((h.is r hr).is (hf.2 r.c (List.mem_map.2 ⟨r, hr, rfl⟩))).1, fun r hr => ((h.is r hr).is (hf.2 r.c (List.mem_map.2 ⟨r, hr, rfl⟩))).2, by omega⟩
end Go.Proofs.YtniklmikdkjgiaaGreatDoor
namespace Go.Proofs.YtniklmikdkjgiaaGreatDoor
open Go.RowKit
theorem fewo_any (o : RO) (w : World) (h : ObIs w o) (hs : ∀ t ∈ o.c.tags, t.1.length ≤ 9223372036854775807 ∧ t.2.length ≤ 9223372036854775807) :
    Calls Tryz.prog 128 #[roA o, .int .i64 40] w fun e w' => e = .returned (.bool (fewO o.c)) ∧ Below w.heap.size w w' := by
  obtain ⟨⟨A1, q1, v1, r1⟩, ⟨A2, q2, v2, r2⟩⟩ := h
  obtain ⟨W, hW⟩ : ∃ W, W = w.alloc (.cells #[.string (mkB o.c.id), .int .i64 o.c.kind, .int .i64 o.c.x, .int .i64 o.c.y, .slice A1 o.c.refs.length q1, .slice A2 o.c.tags.length q2] 91) := ⟨_, rfl⟩
  have HX : W.heap[w.heap.size]? = some (.cells #[.string (mkB o.c.id), .int .i64 o.c.kind, .int .i64 o.c.x, .int .i64 o.c.y, .slice A1 o.c.refs.length q1, .slice A2 o.c.tags.length q2] 91 (0, 0)) := by rw [hW]; exact heap_alloc_new w _
  have BW : Hid (Below w.heap.size w W) := Lib.hid (by rw [hW]; exact (Below.refl _ _).alloc (Nat.le_refl _) _)
  have CF : Hid (∀ u, Below W.heap.size W u → u.cell? ⟨w.heap.size, 0, none⟩ = some (.string (mkB o.c.id)) ∧ u.cell? ⟨w.heap.size, 3, none⟩ = some (.int .i64 o.c.y) ∧ u.cell? ⟨w.heap.size, 4, none⟩ = some (.slice A1 o.c.refs.length q1) ∧ u.cell? ⟨w.heap.size, 5, none⟩ = some (.slice A2 o.c.tags.length q2)) := Lib.hid (fun u hu => by
    have h0 := (hu.block w.heap.size (by rw [hW]; simp)).trans HX
    exact ⟨cell_of_row u _ 0 _ _ _ h0, cell_of_row u _ 3 _ _ _ h0, cell_of_row u _ 4 _ _ _ h0, cell_of_row u _ 5 _ _ _ h0⟩)
  obtain ⟨k0, k3, k4, k5⟩ := CF.out W (Below.refl _ _)
  have R1 := Lib.hid r1
  have R2 := Lib.hid r2
  have HS := Lib.hid hs
  have FO : Hid (fewO o.c = (decide (o.c.id.length ≤ 300) && decide (o.c.refs.length ≤ 40) && decide (o.c.tags.length ≤ 65) && o.c.refs.all (fun s => decide (s.length ≤ 300)) && o.c.tags.all fewT)) := Lib.hid rfl
  have mi := mkB_len o.c.id
  unfold roA
  rw [v1, v2]
  generalize fewO o.c = R at *
  obtain ⟨ni, hni⟩ : ∃ n, o.c.id.length = n := ⟨_, rfl⟩
  obtain ⟨nr, hnr⟩ : ∃ n, o.c.refs.length = n := ⟨_, rfl⟩
  obtain ⟨nt, hnt⟩ : ∃ n, o.c.tags.length = n := ⟨_, rfl⟩
  have HNr := Lib.hid hnr
  have HNt := Lib.hid hnt
  rw [hni] at mi FO
  rw [hnr] at FO
  rw [hnt] at FO
  simp only [hnr, hnt] at hW k4 k5 CF ⊢
  clear HX r1 r2 hs v1 v2 hni hnr hnt
  go_enter Tryz.func128, Tryz.ntmps128
  go_upto_region 1 with fail
  rw [← hW]
  clear hW
  by_cases c1 : ni ≤ 300
  · have e1 : decide ((300 : Int) < (ni : Int)) = false := by simp; omega
    have f1 : decide (300 < ni) = false := by simp; omega
    by_cases c2 : nr ≤ 40
    · have e2 : decide ((40 : Int) < (nr : Int)) = false := by simp; omega
      have f2 : decide (40 < nr) = false := by simp; omega
      by_cases c3 : nt ≤ 65
      · have e3 : decide ((65 : Int) < (nt : Int)) = false := by simp; omega
        have f3 : decide (65 < nt) = false := by simp; omega
        have S1 : Hid (R = ((o.c.refs.drop 0).all (fun s => decide (s.length ≤ 300)) && o.c.tags.all fewT)) := Lib.hid (by rw [FO.out, decide_eq_true c1, decide_eq_true c2, decide_eq_true c3]; rfl)
        have B0 : Hid (Below W.heap.size W W) := Lib.hid (Below.refl _ _)
        clear FO c1
        go_wp2_with fail
        go_loopw [5] (fun s5 wr => ∃ k : Nat, k ≤ nr ∧ s5 = .int .i64 (k : Int) ∧ Hid (R = ((o.c.refs.drop k).all (fun s => decide (s.length ≤ 300)) && o.c.tags.all fewT)) ∧ Hid (Below W.heap.size W wr)) (fun i _ => nr - (intOf i).toNat)
        case atStart => exact ⟨0, Nat.zero_le _, rfl, S1, B0⟩
        case round =>
          clear S1 B0 k0 k3 k4 k5 mi
          obtain ⟨k, hk, rfl, S1, BL⟩ := hrel
          obtain ⟨k0, k3, k4, k5⟩ := CF.out wr BL.out
          have BL2 := Lib.hid (BW.out.trans (Below.mono BL.out BW.out.size))
          by_cases hlt : k < nr
          · have hkl : k < o.c.refs.length := by rw [HNr.out]; exact hlt
            have d1 : (k : Int) < (nr : Int) := by omega
            have d2 : (0 : Int) ≤ (k : Int) := by omega
            obtain ⟨b, off, rfl, hb, c0⟩ := strs_at (R1.out.below BL2.out) hkl
            have SD : Hid (R = ((decide (o.c.refs[k].length ≤ 300) && (o.c.refs.drop (k + 1)).all (fun s => decide (s.length ≤ 300))) && o.c.tags.all fewT)) := Lib.hid (S1.out.trans (by rw [List.drop_eq_getElem_cons hkl]; rfl))
            have mk := mkB_len o.c.refs[k]
            generalize o.c.refs[k] = s at *
            obtain ⟨m, hm⟩ : ∃ n, s.length = n := ⟨_, rfl⟩
            rw [hm] at mk SD
            clear hm S1
            by_cases cm : m ≤ 300
            · have g1 : decide ((300 : Int) < (m : Int)) = false := by simp; omega
              have g2 : decide (300 < m) = false := by simp; omega
              have S2 : Hid (R = ((o.c.refs.drop (k + 1)).all (fun s => decide (s.length ≤ 300)) && o.c.tags.all fewT)) := Lib.hid (by rw [SD.out, decide_eq_true cm]; rfl)
              clear SD cm
              go_wp2_with fail
              exact ⟨⟨k + 1, by omega, by go_num, S2, BL⟩, by simp [intOf]; omega⟩
            · have g1 : decide ((300 : Int) < (m : Int)) = true := by simp; omega
              have g2 : decide (300 < m) = true := by simp; omega
              have S2 : Hid (R = false) := Lib.hid (by rw [SD.out, decide_eq_false cm]; rfl)
              clear SD cm
              go_wp2_with fail
              go_ret
              exact ⟨by rw [S2.out]; rfl, BL2.out⟩
          · have d1 : ¬ (k : Int) < (nr : Int) := by omega
            have T1 : Hid (R = (o.c.tags.drop 0).all fewT) := Lib.hid (by rw [S1.out, List.drop_eq_nil_of_le (by rw [HNr.out]; omega)]; simp)
            clear S1
            go_wp2_with fail
            go_loopw [6] (fun s6 wq => ∃ j : Nat, j ≤ nt ∧ s6 = .int .i64 (j : Int) ∧ Hid (R = (o.c.tags.drop j).all fewT) ∧ Hid (Below W.heap.size W wq)) (fun i _ => nt - (intOf i).toNat)
            case atStart => exact ⟨0, Nat.zero_le _, rfl, T1, BL⟩
            case round =>
              clear T1 BL k0 k3 k4 k5 BL2
              obtain ⟨j, hj, rfl, T1, BL⟩ := hrel
              obtain ⟨k0, k3, k4, k5⟩ := CF.out wr BL.out
              have BL2 := Lib.hid (BW.out.trans (Below.mono BL.out BW.out.size))
              by_cases hltj : j < nt
              · have hjl : j < o.c.tags.length := by rw [HNt.out]; exact hltj
                have d3 : (j : Int) < (nt : Int) := by omega
                have d4 : (0 : Int) ≤ (j : Int) := by omega
                obtain ⟨b, off, rfl, hb, c0, c1⟩ := tags_at (R2.out.below BL2.out) hjl
                have SZ := HS.out o.c.tags[j] (List.getElem_mem hjl)
                have SD : Hid (R = (fewT o.c.tags[j] && (o.c.tags.drop (j + 1)).all fewT)) := Lib.hid (T1.out.trans (by rw [List.drop_eq_getElem_cons hjl]; rfl))
                generalize o.c.tags[j] = t at *
                obtain ⟨t1, t2⟩ := t
                dsimp only at c0 c1 SZ
                have m1 := mkB_len t1
                have m2 := mkB_len t2
                have FT : Hid (fewT (t1, t2) = (decide (t1.length + t2.length ≤ 600) || decide (9223372036854775808 ≤ t1.length + t2.length))) := Lib.hid rfl
                generalize fewT (t1, t2) = F at *
                obtain ⟨a, ha⟩ : ∃ n, t1.length = n := ⟨_, rfl⟩
                obtain ⟨bb, hbb⟩ : ∃ n, t2.length = n := ⟨_, rfl⟩
                rw [ha] at m1 SZ FT
                rw [hbb] at m2 SZ FT
                obtain ⟨sz1, sz2⟩ := SZ
                clear ha hbb T1
                obtain ⟨x, hx⟩ : ∃ x, IntKind.i64.wrap ((a : Int) + (bb : Int)) = x := ⟨_, rfl⟩
                by_cases cm : a + bb ≤ 600
                · have hx2 : x = (a : Int) + (bb : Int) := by rw [← hx]; exact IntWalk.i64_in _ (by omega)
                  have g1 : decide ((600 : Int) < x) = false := by simp; omega
                  have S2 : Hid (R = (o.c.tags.drop (j + 1)).all fewT) := Lib.hid (by rw [SD.out, FT.out, decide_eq_true cm]; rfl)
                  clear SD FT cm hx2 sz1 sz2
                  go_wp2_with fail
                  go_quiet (fail)
                  go_wp2_with fail
                  exact ⟨⟨j + 1, by omega, by go_num, S2, Lib.hid (belowNN BL.out _)⟩, by simp [intOf]; omega⟩
                · by_cases cn : 9223372036854775808 ≤ a + bb
                  · have hx2 : x = (a : Int) + (bb : Int) - 18446744073709551616 := by rw [← hx, IntKind.wrap_i64]; omega
                    have g1 : decide ((600 : Int) < x) = false := by simp; omega
                    have S2 : Hid (R = (o.c.tags.drop (j + 1)).all fewT) := Lib.hid (by rw [SD.out, FT.out, decide_eq_true cn, Bool.or_true, Bool.true_and])
                    clear SD FT cm cn hx2 sz1 sz2
                    go_wp2_with fail
                    go_quiet (fail)
                    go_wp2_with fail
                    exact ⟨⟨j + 1, by omega, by go_num, S2, Lib.hid (belowNN BL.out _)⟩, by simp [intOf]; omega⟩
                  · have hx2 : x = (a : Int) + (bb : Int) := by rw [← hx]; exact IntWalk.i64_in _ (by omega)
                    have g1 : decide ((600 : Int) < x) = true := by simp; omega
                    have S2 : Hid (R = false) := Lib.hid (by rw [SD.out, FT.out, decide_eq_false cm, decide_eq_false cn]; rfl)
                    clear SD FT cm cn hx2 sz1 sz2
                    go_wp2_with fail
                    go_quiet (fail)
                    go_wp2_with fail
                    go_ret
                    exact ⟨by rw [S2.out]; rfl, belowNN BL2.out _⟩
              · have d3 : ¬ (j : Int) < (nt : Int) := by omega
                have RT : Hid (R = true) := Lib.hid (by rw [T1.out, List.drop_eq_nil_of_le (by rw [HNt.out]; omega)]; rfl)
                clear T1
                go_wp2_with fail
                go_ret
                exact ⟨by rw [RT.out]; rfl, BL2.out⟩
      · have e3 : decide ((65 : Int) < (nt : Int)) = true := by simp; omega
        have f3 : decide (65 < nt) = true := by simp; omega
        have RF : Hid (R = false) := Lib.hid (by rw [FO.out, decide_eq_false c3]; simp)
        clear FO c1 c2 c3
        go_wp2_with fail
        go_ret
        exact ⟨by rw [RF.out]; rfl, BW.out⟩
    · have e2 : decide ((40 : Int) < (nr : Int)) = true := by simp; omega
      have f2 : decide (40 < nr) = true := by simp; omega
      have RF : Hid (R = false) := Lib.hid (by rw [FO.out, decide_eq_false c2]; simp)
      clear FO c1 c2
      go_wp2_with fail
      go_ret
      exact ⟨by rw [RF.out]; rfl, BW.out⟩
  · have e1 : decide ((300 : Int) < (ni : Int)) = true := by simp; omega
    have f1 : decide (300 < ni) = true := by simp; omega
    have RF : Hid (R = false) := Lib.hid (by rw [FO.out, decide_eq_false c1]; simp)
    clear FO c1
    go_wp2_with fail
    go_ret
    exact ⟨by rw [RF.out]; rfl, BW.out⟩
structure SS where
  A : Option Addr
  c : Nat
  l : List Tx
def ssL (xs : List SS) : List Value := xs.map fun s => .slice s.A s.l.length s.c
def smallB (l : List Tx) : Bool := l.all fun s => decide (s.length ≤ 300)
theorem lists1_eq (l : List Tx) : lists1 l = (decide (l.length ≤ 30) && smallB l) := rfl
theorem lists_any (A : Option Addr) (n c : Nat) (xs : List SS) (w : World) (hn : n = xs.length) (hl : n ≤ 100) (h : Rd w A (ssL xs)) (hx : ∀ s ∈ xs, Rd w s.A (strsC s.l)) :
    Calls Tryz.prog 94 #[.slice A n c] w fun e w' => e = .returned (.bool (listsB (xs.map SS.l))) ∧ Below w.heap.size w w' := by
  have H := Lib.hid h
  have HX := Lib.hid hx
  have HN := Lib.hid hn
  clear h hn hx
  obtain ⟨R, hR⟩ : ∃ R, listsB (xs.map SS.l) = R := ⟨_, rfl⟩
  have HR : Hid (R = listsB ((xs.drop 0).map SS.l)) := Lib.hid hR.symm
  rw [hR]
  clear hR
  go_enter Tryz.func94, Tryz.ntmps94
  go_wp2_with fail
  go_loopw [3, 4] (fun s3 s4 wr => ∃ k : Nat, k ≤ n ∧ s3 = .int .i64 (k : Int) ∧ (∃ p, s4 = p) ∧ Hid (R = listsB ((xs.drop k).map SS.l)) ∧ Hid (Below w.heap.size w wr)) (fun i _ _ => n - (intOf i).toNat)
  case atStart => exact ⟨0, Nat.zero_le _, rfl, ⟨_, rfl⟩, HR, Lib.hid (Below.refl _ _)⟩
  case round =>
    clear HR
    obtain ⟨k, hkn, rfl, ⟨p4, rfl⟩, HR, BL⟩ := hrel
    generalize wr = wo at *
    by_cases hlt : k < n
    · have hkl : k < xs.length := by rw [← HN.out]; exact hlt
      have d1 : (k : Int) < (n : Int) := by omega
      have d2 : (0 : Int) ≤ (k : Int) := by omega
      obtain ⟨b, off, rfl, hbz, c0⟩ := (H.out.below BL.out).map_at (f := fun s : SS => Value.slice s.A s.l.length s.c) hkl
      have HK := Lib.hid ((HX.out _ (List.getElem_mem hkl)).below BL.out)
      have RK : Hid (R = (decide (xs[k].l.length ≤ 30) && (smallB xs[k].l && listsB ((xs.drop (k + 1)).map SS.l)))) := Lib.hid (by rw [HR.out, List.drop_eq_getElem_cons hkl]; show (lists1 xs[k].l && _) = _; rw [lists1_eq, Bool.and_assoc]; rfl)
      clear HR
      generalize xs[k] = s at *
      obtain ⟨A2, c2, l⟩ := s
      dsimp only at c0 HK RK
      obtain ⟨m, hm⟩ : ∃ m, l.length = m := ⟨_, rfl⟩
      have HM := Lib.hid hm
      rw [hm] at c0 RK
      clear hm
      by_cases h3 : m ≤ 30
      · have e3 : decide ((30 : Int) < (m : Int)) = false := by simp; omega
        have f3 : decide (30 < m) = false := by simp; omega
        have R2 : Hid (R = (smallB (l.drop 0) && listsB ((xs.drop (k + 1)).map SS.l))) := Lib.hid (by rw [RK.out, decide_eq_true h3]; rfl)
        have CB : Hid (∀ u, Below wo.heap.size wo u → u.cell? ⟨b, off + k, none⟩ = some (.slice A2 m c2)) := Lib.hid (fun u hu => (World.cell?_of_block (w := wo) (hu.block b hbz)).trans c0)
        clear RK
        go_wp2_with fail
        clear e3 f3
        go_loopw [4] (fun s4 wr => ∃ j : Nat, j ≤ m ∧ s4 = .int .i64 (j : Int) ∧ Hid (R = (smallB (l.drop j) && listsB ((xs.drop (k + 1)).map SS.l))) ∧ Hid (Below wo.heap.size wo wr)) (fun i _ => m - (intOf i).toNat)
        case atStart => exact ⟨0, Nat.zero_le _, rfl, R2, Lib.hid (Below.refl _ _)⟩
        case round =>
          clear R2 c0
          obtain ⟨j, hjm, rfl, RJ, BQ⟩ := hrel
          have c0 := CB.out wr BQ.out
          by_cases hj : j < m
          · have hjl : j < l.length := by rw [HM.out]; exact hj
            have d4 : (j : Int) < (m : Int) := by omega
            have d5 : (0 : Int) ≤ (j : Int) := by omega
            obtain ⟨b2, off2, rfl, hb2, ce⟩ := strs_at (HK.out.below BQ.out) hjl
            have RJ2 : Hid (R = (decide (l[j].length ≤ 300) && (smallB (l.drop (j + 1)) && listsB ((xs.drop (k + 1)).map SS.l)))) := Lib.hid (by rw [RJ.out, List.drop_eq_getElem_cons hjl]; unfold smallB; rw [List.all_cons, Bool.and_assoc])
            have ml := mkB_len l[j]
            clear RJ
            generalize l[j] = t at *
            obtain ⟨q, hq⟩ : ∃ q, t.length = q := ⟨_, rfl⟩
            rw [hq] at ml RJ2
            clear hq
            by_cases h6 : q ≤ 300
            · have e6 : decide ((300 : Int) < (q : Int)) = false := by simp; omega
              have f6 : decide (300 < q) = false := by simp; omega
              have RJ3 : Hid (R = (smallB (l.drop (j + 1)) && listsB ((xs.drop (k + 1)).map SS.l))) := Lib.hid (by rw [RJ2.out, decide_eq_true h6, Bool.true_and])
              clear RJ2 h6
              go_wp2_with fail
              exact ⟨⟨j + 1, by omega, by go_num, RJ3, BQ⟩, by simp [intOf]; omega⟩
            · have e6 : decide ((300 : Int) < (q : Int)) = true := by simp; omega
              have f6 : decide (300 < q) = true := by simp; omega
              have RF : Hid (R = false) := Lib.hid (by rw [RJ2.out, decide_eq_false h6, Bool.false_and])
              have BF := Lib.hid (BL.out.trans (BQ.out.mono BL.out.size))
              clear RJ2 h6
              go_wp2_with fail
              go_ret
              exact ⟨by rw [RF.out]; rfl, BF.out⟩
          · have d4 : ¬ (j : Int) < (m : Int) := by omega
            have RJ2 : Hid (R = listsB ((xs.drop (k + 1)).map SS.l)) := Lib.hid (by rw [RJ.out, List.drop_eq_nil_of_le (by rw [HM.out]; omega)]; rfl)
            have BF := Lib.hid (BL.out.trans (BQ.out.mono BL.out.size))
            clear RJ
            go_wp2_with fail
            exact ⟨⟨k + 1, by omega, by go_num, ⟨_, rfl⟩, RJ2, BF⟩, by simp [intOf]; omega⟩
      · have e3 : decide ((30 : Int) < (m : Int)) = true := by simp; omega
        have f3 : decide (30 < m) = true := by simp; omega
        have RF : Hid (R = false) := Lib.hid (by rw [RK.out, decide_eq_false h3, Bool.false_and])
        clear RK h3
        go_wp2_with fail
        go_ret
        exact ⟨by rw [RF.out]; rfl, BL.out⟩
    · have d1 : ¬ (k : Int) < (n : Int) := by omega
      have RT : Hid (R = true) := Lib.hid (by rw [HR.out, List.drop_eq_nil_of_le (by rw [← HN.out]; omega)]; rfl)
      clear HR
      go_wp2_with fail
      go_ret
      exact ⟨by rw [RT.out]; rfl, BL.out⟩
end Go.Proofs.YtniklmikdkjgiaaGreatDoor
namespace Go.Proofs.YtniklmikdkjgiaaGreatDoor
open Go.RowKit
theorem evL_oneW (e : EV) (h : ∃ w, EvIs w e) : (evL e).toArray.all (·.oneCell') = true := by
  obtain ⟨w, ⟨A1, c1, v1, -⟩, ⟨A2, c2, v2, -⟩, ⟨A3, c3, v3, -⟩⟩ := h
  simp [evL, v1, v2, v3, Value.oneCell']
theorem fewes_any (A : Option Addr) (n c : Nat) (l : List EV) (w : World) (hn : n = l.length) (h : EsW w A l) :
    Calls Tryz.prog 95 #[.slice A n c, .int .i64 10] w fun e w' => e = .returned (.bool (fewEs (edsC l) 10)) ∧ Below w.heap.size w w' := by
  have H := Lib.hid h
  have HN := Lib.hid hn
  have B0 : Hid (Below w.heap.size w w) := Lib.hid (Below.refl _ _)
  obtain ⟨R, hR⟩ : ∃ R, fewEs (edsC l) 10 = R := ⟨_, rfl⟩
  have HR : Hid (R = (decide (n ≤ 10) && (edsC (l.drop 0)).all fewE)) := Lib.hid (by rw [← hR, hn]; unfold fewEs edsC; rw [List.length_map]; rfl)
  rw [hR]
  clear h hn hR
  by_cases hs : n ≤ 10
  · have e1 : decide ((n : Int) ≤ 10) = true := by simp; omega
    have e2 : (n : Int) ≤ 10 := by omega
    have R0 : Hid (R = (edsC (l.drop 0)).all fewE) := Lib.hid (by rw [HR.out, decide_eq_true hs, Bool.true_and])
    clear HR hs
    go_enter Tryz.func95, Tryz.ntmps95
    go_wp2_with fail
    go_loopw [5, 6, 7] (fun s5 s6 s7 wr => ∃ k : Nat, k ≤ n ∧ s5 = .int .i64 (k : Int) ∧ (∃ p, s6 = p) ∧ (∃ p, s7 = p) ∧ Hid (R = (edsC (l.drop k)).all fewE) ∧ Hid (Below w.heap.size w wr)) (fun i _ _ _ => n - (intOf i).toNat)
    case atStart => exact ⟨0, Nat.zero_le _, rfl, ⟨_, rfl⟩, ⟨_, rfl⟩, R0, B0⟩
    case round =>
      clear R0 B0
      obtain ⟨k, hkn, rfl, ⟨p6, rfl⟩, ⟨p7, rfl⟩, HR, BL⟩ := hrel
      generalize wr = wo at *
      by_cases hlt : k < n
      · have hkl : k < l.length := by rw [← HN.out]; exact hlt
        have d1 : (k : Int) < (n : Int) := by omega
        have d2 : (0 : Int) ≤ (k : Int) := by omega
        obtain ⟨b, off, rfl, hb, hc⟩ := evs_at (H.out.rd.below BL.out) hkl
        have HO := (H.out.is l[k] (List.getElem_mem hkl)).below BL.out
        have LA : Hid (wo.rangeAt b (off + k * 15) (evL l[k])) := Lib.hid (fun j v hj => hc j v hj)
        have HD : Hid (R = (fewE l[k].c && (edsC (l.drop (k + 1))).all fewE)) := Lib.hid (by rw [HR.out, List.drop_eq_getElem_cons hkl]; rfl)
        clear HR hc
        generalize l[k] = x at *
        obtain ⟨X, hX⟩ : ∃ X, X = wo.alloc (.cells (evL x).toArray 93) := ⟨_, rfl⟩
        obtain ⟨bx, hbx⟩ : ∃ bx, wo.heap.size = bx := ⟨_, rfl⟩
        have BX : Below wo.heap.size wo X := by rw [hX]; exact (Below.refl _ _).alloc (Nat.le_refl _) _
        have XX : X.heap[bx]? = some (.cells (evL x).toArray 93 (0, 0)) := by rw [hX, ← hbx]; exact heap_alloc_new wo _
        have XL := lt_of_block XX
        have BA : Hid (∀ u, OldB X u → Below w.heap.size w u) := Lib.hid (fun u hu => BL.out.trans (Below.mono (show OldB wo u from (show OldB wo X from BX).then hu) BL.out.size))
        have XA := fun u (hu : OldB X u) => (hu.block bx XL).trans XX
        obtain ⟨A1, c1, v1, r1⟩ := HO.is.rs
        have RR : Hid (∀ u, OldB X u → Rd u A1 (strsC x.refs)) := Lib.hid (fun u hu => r1.below ((show OldB wo X from BX).then hu))
        have f1 : ∀ u, OldB X u → u.cell? ⟨bx, 1, none⟩ = some (.string (mkB x.id)) := fun u hu => load_block (XA u hu) (by rfl)
        have f2 : ∀ u, OldB X u → u.cell? ⟨bx, 2, none⟩ = some (.string (mkB x.other)) := fun u hu => load_block (XA u hu) (by rfl)
        have f3 : ∀ u, OldB X u → u.cell? ⟨bx, 3, none⟩ = some (.string (mkB x.node)) := fun u hu => load_block (XA u hu) (by rfl)
        have f6 : ∀ u, OldB X u → u.cell? ⟨bx, 6, none⟩ = some (.string (mkB x.key)) := fun u hu => load_block (XA u hu) (by rfl)
        have f7 : ∀ u, OldB X u → u.cell? ⟨bx, 7, none⟩ = some (.string (mkB x.value)) := fun u hu => load_block (XA u hu) (by rfl)
        have f8 : ∀ u, OldB X u → u.cell? ⟨bx, 8, none⟩ = some (.slice A1 x.refs.length c1) := fun u hu => by rw [← v1]; exact load_block (XA u hu) (by rfl)
        have LO : Hid (∀ u, OldB X u → u.rangeAt bx 9 (roC x.o)) := Lib.hid (fun u hu => by have := ev_obj (e := x) (b := bx) (o := 0) (by have := range_of_row (XA u hu); simpa using this); simpa using this)
        have EO : Hid (∀ u, OldB X u → Calls Tryz.prog 128 #[.agg (roC x.o).toArray, .int .i64 40] u fun e w' => e = .returned (.bool (fewO x.o.c)) ∧ Below u.heap.size u w') := Lib.hid (fun u hu => fewo_any x.o u (HO.is.ob.below ((show OldB wo X from BX).then hu)) HO.big.tag)
        have FE : Hid (fewE x.c = (decide (x.id.length + x.other.length + x.node.length + x.key.length ≤ 300) && (decide (x.value.length ≤ 600) && (decide (x.refs.length ≤ 40) && (fewO x.o.c && x.refs.all (fun s => decide (s.length ≤ 300))))))) := Lib.hid (by rw [show fewE x.c = (decide (x.id.length + x.other.length + x.node.length + x.key.length ≤ 300) && decide (x.value.length ≤ 600) && decide (x.refs.length ≤ 40) && fewO x.o.c && x.refs.all (fun s => decide (s.length ≤ 300))) from rfl]; simp only [Bool.and_assoc])
        have ZX : Hid ((Tryz.prog.info? 93).map (·.size) = some (evL x).length) := Lib.hid (by kernel_rfl)
        have ZXA : Hid ((Tryz.prog.info? 93).map (·.size) = some (evL x).toArray.size) := Lib.hid (by kernel_rfl)
        have NX : Hid ((evL x).toArray.size ≤ 15) := Lib.hid (Nat.le_refl 15)
        have OEX := Lib.hid (evL_oneW x ⟨_, HO.is⟩)
        have FX := Lib.hid (fun z (hz : z.length = 15) => setCells_freshG (P := Tryz.prog) wo 93 z (evL x) ZXA.out (hz.trans rfl) OEX.out)
        have ZO : Hid ((Tryz.prog.info? 91).map (·.size) = some (roC x.o).length) := Lib.hid (by kernel_rfl)
        have X0 := Lib.hid hX
        have X1 := Lib.hid hbx
        have m1 := mkB_len x.id
        have m2 := mkB_len x.other
        have m3 := mkB_len x.node
        have m6 := mkB_len x.key
        have m7 := mkB_len x.value
        have g1 : x.id.length ≤ 140737488351232 := HO.big.id
        have g2 : x.other.length ≤ 140737488351232 := HO.big.other
        have g3 : x.node.length ≤ 140737488351232 := HO.big.node
        have g6 : x.key.length ≤ 140737488351232 := HO.big.key
        clear HO hX hbx BX XX XL XA v1 r1
        generalize x.id.length = n1 at *
        generalize x.other.length = n2 at *
        generalize x.node.length = n3 at *
        generalize x.key.length = n6 at *
        generalize x.value.length = n7 at *
        generalize fewE x.c = F at *
        generalize fewO x.o.c = q at *
        generalize evL x = xs at *
        generalize roC x.o = os at *
        generalize x.refs = lr at *
        obtain ⟨nr, hnr⟩ : ∃ nr, lr.length = nr := ⟨_, rfl⟩
        have NR := Lib.hid hnr
        rw [hnr] at FE
        simp only [hnr] at f8
        clear hnr
        have w1 : IntKind.i64.wrap ((n1 : Int) + (n2 : Int)) = (n1 : Int) + (n2 : Int) := IntWalk.i64_in _ (by omega)
        have w2 : IntKind.i64.wrap ((n1 : Int) + (n2 : Int) + (n3 : Int)) = (n1 : Int) + (n2 : Int) + (n3 : Int) := IntWalk.i64_in _ (by omega)
        have w3 : IntKind.i64.wrap ((n1 : Int) + (n2 : Int) + (n3 : Int) + (n6 : Int)) = (n1 : Int) + (n2 : Int) + (n3 : Int) + (n6 : Int) := IntWalk.i64_in _ (by omega)
        have SW : OldB X X := Below.refl _ _
        go_upto_region 5 with (first
          | (refine wpList_load_mid rfl 93 (.tmp 22) rfl b (off + k * 15) rfl xs _ LA.out Tryz.underlying93 rfl ZX.out ?_)
          | (refine wpList_store_mid rfl 93 (.tmp 6) (.tmp 23) rfl wo.heap.size 0 xs.toArray rfl rfl (there_of_row (heap_alloc_new wo _) NX.out) ZXA.out OEX.out ?_; rw [List.toList_toArray, FX.out _ rfl, ← X0.out, X1.out]))
        clear LA X0 X1 FX OEX NX ZXA ZX
        by_cases h1 : n1 + n2 + n3 + n6 ≤ 300
        · have e5 : decide ((300 : Int) < (n1 : Int) + (n2 : Int) + (n3 : Int) + (n6 : Int)) = false := by simp; omega
          have F1 : Hid (F = (decide (n7 ≤ 600) && (decide (nr ≤ 40) && (q && lr.all (fun s => decide (s.length ≤ 300)))))) := Lib.hid (by rw [FE.out, decide_eq_true h1, Bool.true_and])
          clear FE h1 g1 g2 g3 g6
          by_cases h2 : n7 ≤ 600
          · have e6 : decide ((600 : Int) < (n7 : Int)) = false := by simp; omega
            have f6' : decide (600 < n7) = false := by simp; omega
            have F2 : Hid (F = (decide (nr ≤ 40) && (q && lr.all (fun s => decide (s.length ≤ 300))))) := Lib.hid (by rw [F1.out, decide_eq_true h2, Bool.true_and])
            clear F1 h2
            by_cases h3 : nr ≤ 40
            · have e7 : decide ((40 : Int) < (nr : Int)) = false := by simp; omega
              have f7' : decide (40 < nr) = false := by simp; omega
              have F3 : Hid (F = (q && lr.all (fun s => decide (s.length ≤ 300)))) := Lib.hid (by rw [F2.out, decide_eq_true h3, Bool.true_and])
              clear F2
              go_wp2_with (refine wpList_load_midG (by simp [Region.wanted, yielded]; done) 91 (.tmp 53) rfl bx 9 rfl os _ (LO.out _ (by assumption)) Tryz.underlying91 rfl ZO.out ?_)
              (with_reducible refine (EO.out _ SW).mono ?_)
              rintro e u1 ⟨rfl, d1'⟩
              have O1 : OldB X u1 := SW.then d1'
              clear d1' SW EO LO
              cases q
              · have RF : Hid (R = false) := Lib.hid (by rw [HD.out, F3.out, Bool.false_and, Bool.false_and])
                clear HD F3
                go_wp2_with fail
                go_ret
                exact ⟨by rw [RF.out]; rfl, BA.out _ O1⟩
              · have HE : Hid (R = ((lr.drop 0).all (fun s => decide (s.length ≤ 300)) && (edsC (l.drop (k + 1))).all fewE)) := Lib.hid (by rw [HD.out, F3.out, Bool.true_and]; rfl)
                clear HD F3
                go_wp2_with fail
                clear f1 f2 f3 f6 f7 e5 e6 e7 f6' f7' m1 m2 m3 m6 m7 w1 w2 w3
                go_loopw [7] (fun s7 wr => ∃ j : Nat, j ≤ nr ∧ s7 = .int .i64 (j : Int) ∧ Hid (R = ((lr.drop j).all (fun s => decide (s.length ≤ 300)) && (edsC (l.drop (k + 1))).all fewE)) ∧ OldB X wr) (fun i _ => nr - (intOf i).toNat)
                case atStart => exact ⟨0, Nat.zero_le _, rfl, HE, O1⟩
                case round =>
                  clear HE O1
                  obtain ⟨j, hj, rfl, HE, O1⟩ := hrel
                  by_cases hlj : j < nr
                  · have hjl : j < lr.length := by rw [NR.out]; exact hlj
                    have d4 : (j : Int) < (nr : Int) := by omega
                    have d5 : (0 : Int) ≤ (j : Int) := by omega
                    obtain ⟨b2, off2, rfl, hb2, ce⟩ := strs_at (RR.out _ O1) hjl
                    have HE2 : Hid (R = (decide (lr[j].length ≤ 300) && ((lr.drop (j + 1)).all (fun s => decide (s.length ≤ 300)) && (edsC (l.drop (k + 1))).all fewE))) := Lib.hid (by rw [HE.out, List.drop_eq_getElem_cons hjl, List.all_cons, Bool.and_assoc])
                    have ml := mkB_len lr[j]
                    clear HE
                    generalize lr[j] = t at *
                    obtain ⟨z, hz⟩ : ∃ z, t.length = z := ⟨_, rfl⟩
                    rw [hz] at ml HE2
                    clear hz
                    by_cases h6 : z ≤ 300
                    · have e8 : decide ((300 : Int) < (z : Int)) = false := by simp; omega
                      have f9 : decide (300 < z) = false := by simp; omega
                      have HE3 : Hid (R = ((lr.drop (j + 1)).all (fun s => decide (s.length ≤ 300)) && (edsC (l.drop (k + 1))).all fewE)) := Lib.hid (by rw [HE2.out, decide_eq_true h6, Bool.true_and])
                      have OK := Lib.hid O1
                      clear HE2 h6
                      go_wp2_with fail
                      exact ⟨⟨j + 1, by omega, by go_num, HE3, OK.out⟩, by simp [intOf]; omega⟩
                    · have e8 : decide ((300 : Int) < (z : Int)) = true := by simp; omega
                      have f9 : decide (300 < z) = true := by simp; omega
                      have RF : Hid (R = false) := Lib.hid (by rw [HE2.out, decide_eq_false h6, Bool.false_and])
                      have BF := Lib.hid (BA.out _ O1)
                      clear HE2 h6
                      go_wp2_with fail
                      go_ret
                      exact ⟨by rw [RF.out]; rfl, BF.out⟩
                  · have d4 : ¬ (j : Int) < (nr : Int) := by omega
                    have HE2 : Hid (R = (edsC (l.drop (k + 1))).all fewE) := Lib.hid (by rw [HE.out, List.drop_eq_nil_of_le (by rw [NR.out]; omega)]; rfl)
                    have BF := Lib.hid (BA.out _ O1)
                    clear HE
                    go_wp2_with fail
                    exact ⟨⟨k + 1, by omega, by go_num, ⟨_, rfl⟩, ⟨_, rfl⟩, HE2, BF⟩, by simp [intOf]; omega⟩
            · have e7 : decide ((40 : Int) < (nr : Int)) = true := by simp; omega
              have f7' : decide (40 < nr) = true := by simp; omega
              have RF : Hid (R = false) := Lib.hid (by rw [HD.out, F2.out, decide_eq_false h3, Bool.false_and, Bool.false_and])
              clear HD F2 h3
              go_wp2_with fail
              go_ret
              exact ⟨by rw [RF.out]; rfl, BA.out _ SW⟩
          · have e6 : decide ((600 : Int) < (n7 : Int)) = true := by simp; omega
            have f6' : decide (600 < n7) = true := by simp; omega
            have RF : Hid (R = false) := Lib.hid (by rw [HD.out, F1.out, decide_eq_false h2, Bool.false_and, Bool.false_and])
            clear HD F1 h2
            go_wp2_with fail
            go_ret
            exact ⟨by rw [RF.out]; rfl, BA.out _ SW⟩
        · have e5 : decide ((300 : Int) < (n1 : Int) + (n2 : Int) + (n3 : Int) + (n6 : Int)) = true := by simp; omega
          have RF : Hid (R = false) := Lib.hid (by rw [HD.out, FE.out, decide_eq_false h1, Bool.false_and, Bool.false_and])
          clear HD FE h1
          go_wp2_with fail
          go_ret
          exact ⟨by rw [RF.out]; rfl, BA.out _ SW⟩
      · have d1 : ¬ (k : Int) < (n : Int) := by omega
        have RT : Hid (R = true) := Lib.hid (by rw [HR.out, List.drop_eq_nil_of_le (by rw [← HN.out]; omega)]; rfl)
        clear HR
        go_wp2_with fail
        go_ret
        exact ⟨by rw [RT.out]; rfl, BL.out⟩
  · have e1 : decide ((n : Int) ≤ 10) = false := by simp; omega
    have e2 : decide (n ≤ 10) = false := by simp; omega
    have e3 : (0 : Int) < (n : Int) := by omega
    have RF : Hid (R = false) := Lib.hid (by rw [HR.out, decide_eq_false hs, Bool.false_and])
    clear HR hs
    go_enter Tryz.func95, Tryz.ntmps95
    go_wp2_with fail
    go_loopw [5, 6, 7] (fun s5 s6 s7 wr => s5 = .int .i64 0 ∧ (∃ p, s6 = p) ∧ (∃ p, s7 = p) ∧ wr = w) (fun i _ _ _ => 0)
    case atStart => exact ⟨rfl, ⟨_, rfl⟩, ⟨_, rfl⟩, rfl⟩
    case round =>
      obtain ⟨rfl, ⟨p6, rfl⟩, ⟨p7, rfl⟩, rfl⟩ := hrel
      go_wp2_with fail
      go_ret
      exact ⟨by rw [RF.out]; rfl, B0.out⟩
end Go.Proofs.YtniklmikdkjgiaaGreatDoor
namespace Go.Proofs.YtniklmikdkjgiaaGreatDoor
open Go.RowKit
theorem rvL_oneW (r : RV) (h : ∃ w, RvW w r) : (rvL r).toArray.all (·.oneCell') = true := by
  obtain ⟨w, ⟨A0, c0, v0, -⟩, ⟨A1, c1, v1, -⟩, ⟨⟨A2, c2, v2, -⟩, ⟨A3, c3, v3, -⟩⟩, ⟨A4, c4, v4, -⟩, ⟨A5, c5, v5, -⟩, ⟨⟨A6, c6, v6, -⟩, ⟨A7, c7, v7, -⟩⟩⟩ := h
  unfold rvL; rw [v0, v1, v2, v3, v4, v5, v6, v7]; simp [Value.oneCell']
theorem prL_oneW (r : RV) (h : ∃ w, RvW w r) : (prL r).toArray.all (·.oneCell') = true := by
  obtain ⟨w, -, -, -, ⟨A4, c4, v4, -⟩, ⟨A5, c5, v5, -⟩, ⟨⟨A6, c6, v6, -⟩, ⟨A7, c7, v7, -⟩⟩⟩ := h
  unfold prL; rw [v4, v5, v6, v7]; simp [Value.oneCell']
theorem fewrs_any (A : Option Addr) (n c : Nat) (l : List RV) (most : Nat) (w : World) (hn : n = l.length) (hm : most ≤ 1000) (h : Rw w A l) :
    Calls Tryz.prog 48 #[.slice A n c, .int .i64 (most : Int)] w fun e w' => e = .returned (.bool (fewL (rcsC l) most)) ∧ Below w.heap.size w w' := by
  have H := Lib.hid h
  have HN := Lib.hid hn
  have B0 : Hid (Below w.heap.size w w) := Lib.hid (Below.refl _ _)
  obtain ⟨R, hR⟩ : ∃ R, fewL (rcsC l) most = R := ⟨_, rfl⟩
  have HR : Hid (R = (decide (n ≤ most) && (rcsC (l.drop 0)).all fewR)) := Lib.hid (by rw [← hR, hn]; unfold fewL rcsC; rw [List.length_map]; rfl)
  rw [hR]
  clear h hn hR
  by_cases hs : n ≤ most
  · have e1 : decide ((n : Int) ≤ (most : Int)) = true := by simp; omega
    have e2 : (n : Int) ≤ (most : Int) := by omega
    have R0 : Hid (R = (rcsC (l.drop 0)).all fewR) := Lib.hid (by rw [HR.out, decide_eq_true hs, Bool.true_and])
    clear HR hs
    go_enter Tryz.func48, Tryz.ntmps48
    go_wp2_with fail
    go_loopw [5, 6, 7] (fun s5 s6 s7 wr => ∃ k : Nat, k ≤ n ∧ s5 = .int .i64 (k : Int) ∧ (∃ p, s6 = p) ∧ (∃ p, s7 = p) ∧ Hid (R = (rcsC (l.drop k)).all fewR) ∧ Hid (Below w.heap.size w wr)) (fun i _ _ _ => n - (intOf i).toNat)
    case atStart => exact ⟨0, Nat.zero_le _, rfl, ⟨_, rfl⟩, ⟨_, rfl⟩, R0, B0⟩
    case round =>
      clear R0 B0
      obtain ⟨k, hkn, rfl, ⟨p6, rfl⟩, ⟨p7, rfl⟩, HR, BL⟩ := hrel
      generalize wr = wo at *
      by_cases hlt : k < n
      · have hkl : k < l.length := by rw [← HN.out]; exact hlt
        have d1 : (k : Int) < (n : Int) := by omega
        have d2 : (0 : Int) ≤ (k : Int) := by omega
        obtain ⟨b, off, rfl, hb, hc⟩ := rvs_at (H.out.rd.below BL.out) hkl
        have HO := (H.out.is l[k] (List.getElem_mem hkl)).below BL.out
        have LA : Hid (wo.rangeAt b (off + k * 21) (rvL l[k])) := Lib.hid (fun j v hj => hc j v hj)
        have HD : Hid (R = (fewR l[k].c && (rcsC (l.drop (k + 1))).all fewR)) := Lib.hid (by rw [HR.out, List.drop_eq_getElem_cons hkl]; rfl)
        clear HR hc
        generalize l[k] = x at *
        obtain ⟨X, hX⟩ : ∃ X, X = wo.alloc (.cells (rvL x).toArray 56) := ⟨_, rfl⟩
        obtain ⟨bx, hbx⟩ : ∃ bx, wo.heap.size = bx := ⟨_, rfl⟩
        obtain ⟨Y, hY⟩ : ∃ Y, Y = X.alloc (.cells (prL x).toArray 54) := ⟨_, rfl⟩
        obtain ⟨bb, hbb⟩ : ∃ bb, X.heap.size = bb := ⟨_, rfl⟩
        have BX : OldB wo X := by rw [hX]; exact (Below.refl _ _).alloc (Nat.le_refl _) _
        have BY : OldB X Y := by rw [hY]; exact (Below.refl _ _).alloc (Nat.le_refl _) _
        have OY : OldB wo Y := BX.then BY
        have XX : X.heap[bx]? = some (.cells (rvL x).toArray 56 (0, 0)) := by rw [hX, ← hbx]; exact heap_alloc_new wo _
        have YY : Y.heap[bb]? = some (.cells (prL x).toArray 54 (0, 0)) := by rw [hY, ← hbb]; exact heap_alloc_new X _
        have YX : Y.heap[bx]? = some (.cells (rvL x).toArray 56 (0, 0)) := ((show Below _ _ _ from BY).block bx (lt_of_block XX)).trans XX
        have YLX := lt_of_block YX
        have YLY := lt_of_block YY
        have BO : Hid (∀ u, OldB Y u → OldB wo u) := Lib.hid (fun u hu => OY.then hu)
        have BA : Hid (∀ u, OldB Y u → Below w.heap.size w u) := Lib.hid (fun u hu => BL.out.trans (Below.mono (OY.then hu) BL.out.size))
        have XA := fun u (hu : OldB Y u) => (hu.block bx YLX).trans YX
        have XB := fun u (hu : OldB Y u) => (hu.block bb YLY).trans YY
        have RP : Hid (X.rangeAt bx 14 (prL x)) := Lib.hid (by have := rv_prv (r := x) (b := bx) (o := 0) (by have := range_of_row XX; simpa using this); simpa using this)
        obtain ⟨A0, c0, v0, r0⟩ := HO.pa
        obtain ⟨A1, c1, v1, r1⟩ := HO.ed
        obtain ⟨A2, c2, v2, r2⟩ := HO.sl.sg
        obtain ⟨A3, c3, v3, r3⟩ := HO.sl.pa
        obtain ⟨A4, c4, v4, r4⟩ := HO.so
        obtain ⟨A5, c5, v5, -⟩ := HO.tr
        obtain ⟨A6, c6, v6, r6⟩ := HO.ps.sg
        obtain ⟨A7, c7, v7, r7⟩ := HO.ps.pa
        have a4 : ∀ u, OldB Y u → u.cell? ⟨bx, 4, none⟩ = some (.string (mkB x.branch)) := fun u hu => load_block (XA u hu) (by rfl)
        have a5 : ∀ u, OldB Y u → u.cell? ⟨bx, 5, none⟩ = some (.slice A0 x.parents.length c0) := fun u hu => by rw [← v0]; exact load_block (XA u hu) (by rfl)
        have a6 : ∀ u, OldB Y u → u.cell? ⟨bx, 6, none⟩ = some (.slice A1 x.edits.length c1) := fun u hu => by rw [← v1]; exact load_block (XA u hu) (by rfl)
        have a7 : ∀ u, OldB Y u → u.cell? ⟨bx, 7, none⟩ = some (.string (mkB x.target)) := fun u hu => load_block (XA u hu) (by rfl)
        have a10 : ∀ u, OldB Y u → u.cell? ⟨bx, 10, none⟩ = some (.string (mkB x.frm)) := fun u hu => load_block (XA u hu) (by rfl)
        have a12 : ∀ u, OldB Y u → u.cell? ⟨bx, 12, none⟩ = some (.slice A2 x.sla.sig.length c2) := fun u hu => by rw [← v2]; exact load_block (XA u hu) (by rfl)
        have a13 : ∀ u, OldB Y u → u.cell? ⟨bx, 13, none⟩ = some (.slice A3 x.sla.path.length c3) := fun u hu => by rw [← v3]; exact load_block (XA u hu) (by rfl)
        have b0 : ∀ u, OldB Y u → u.cell? ⟨bb, 0, none⟩ = some (.string (mkB x.name)) := fun u hu => load_block (XB u hu) (by rfl)
        have b1 : ∀ u, OldB Y u → u.cell? ⟨bb, 1, none⟩ = some (.string (mkB x.reason)) := fun u hu => load_block (XB u hu) (by rfl)
        have b2 : ∀ u, OldB Y u → u.cell? ⟨bb, 2, none⟩ = some (.slice A4 x.sources.length c4) := fun u hu => by rw [← v4]; exact load_block (XB u hu) (by rfl)
        have b3 : ∀ u, OldB Y u → u.cell? ⟨bb, 3, none⟩ = some (.slice A5 x.trace.length c5) := fun u hu => by rw [← v5]; exact load_block (XB u hu) (by rfl)
        have b5 : ∀ u, OldB Y u → u.cell? ⟨bb, 5, none⟩ = some (.slice A6 x.pseal.sig.length c6) := fun u hu => by rw [← v6]; exact load_block (XB u hu) (by rfl)
        have b6 : ∀ u, OldB Y u → u.cell? ⟨bb, 6, none⟩ = some (.slice A7 x.pseal.path.length c7) := fun u hu => by rw [← v7]; exact load_block (XB u hu) (by rfl)
        have E1 : Hid (∀ u, OldB Y u → Calls Tryz.prog 94 #[.slice (some ⟨u.heap.size, 0, none⟩) 6 6] (u.alloc (.cells #[.slice A0 x.parents.length c0, .slice A2 x.sla.sig.length c2, .slice A3 x.sla.path.length c3, .slice A4 x.sources.length c4, .slice A6 x.pseal.sig.length c6, .slice A7 x.pseal.path.length c7] 35)) fun e w' => e = .returned (.bool (listsB [x.parents, x.sla.sig, x.sla.path, x.sources, x.pseal.sig, x.pseal.path])) ∧ Below (u.heap.size + 1) (u.alloc (.cells #[.slice A0 x.parents.length c0, .slice A2 x.sla.sig.length c2, .slice A3 x.sla.path.length c3, .slice A4 x.sources.length c4, .slice A6 x.pseal.sig.length c6, .slice A7 x.pseal.path.length c7] 35)) w') := Lib.hid (fun u hu => by
          have k := BO.out u hu
          have kk : OldB wo (u.alloc (.cells #[.slice A0 x.parents.length c0, .slice A2 x.sla.sig.length c2, .slice A3 x.sla.path.length c3, .slice A4 x.sources.length c4, .slice A6 x.pseal.sig.length c6, .slice A7 x.pseal.path.length c7] 35)) := k.alloc _
          have := lists_any (some ⟨u.heap.size, 0, none⟩) 6 6 [⟨A0, c0, x.parents⟩, ⟨A2, c2, x.sla.sig⟩, ⟨A3, c3, x.sla.path⟩, ⟨A4, c4, x.sources⟩, ⟨A6, c6, x.pseal.sig⟩, ⟨A7, c7, x.pseal.path⟩] _ rfl (by decide) (Rd.of_row (heap_alloc_new u (.cells #[.slice A0 x.parents.length c0, .slice A2 x.sla.sig.length c2, .slice A3 x.sla.path.length c3, .slice A4 x.sources.length c4, .slice A6 x.pseal.sig.length c6, .slice A7 x.pseal.path.length c7] 35)) (List.prefix_refl _)) (fun s hs => by
            simp only [List.mem_cons, List.not_mem_nil, or_false] at hs
            rcases hs with rfl | rfl | rfl | rfl | rfl | rfl
            · exact r0.below kk
            · exact r2.below kk
            · exact r3.below kk
            · exact r4.below kk
            · exact r6.below kk
            · exact r7.below kk)
          rw [World.size_alloc] at this
          exact this)
        have E2 : Hid (∀ u, OldB Y u → Calls Tryz.prog 94 #[.slice (some ⟨u.heap.size + 1, 0, none⟩) 1 1] ((u.alloc (.cells #[.string (mkB x.branch), .string (mkB x.target), .string (mkB x.frm), .string (mkB x.name), .string (mkB x.reason)] 9)).alloc (.cells #[.slice (some ⟨u.heap.size, 0, none⟩) 5 5] 35)) fun e w' => e = .returned (.bool (listsB [[x.branch, x.target, x.frm, x.name, x.reason]])) ∧ Below (u.heap.size + 2) ((u.alloc (.cells #[.string (mkB x.branch), .string (mkB x.target), .string (mkB x.frm), .string (mkB x.name), .string (mkB x.reason)] 9)).alloc (.cells #[.slice (some ⟨u.heap.size, 0, none⟩) 5 5] 35)) w') := Lib.hid (fun u hu => by
          have h0 := heap_alloc_new u (.cells #[.string (mkB x.branch), .string (mkB x.target), .string (mkB x.frm), .string (mkB x.name), .string (mkB x.reason)] 9)
          have := lists_any (some ⟨(u.alloc (.cells #[.string (mkB x.branch), .string (mkB x.target), .string (mkB x.frm), .string (mkB x.name), .string (mkB x.reason)] 9)).heap.size, 0, none⟩) 1 1 [⟨some ⟨u.heap.size, 0, none⟩, 5, [x.branch, x.target, x.frm, x.name, x.reason]⟩] _ rfl (by decide) (Rd.of_row (heap_alloc_new (u.alloc (.cells #[.string (mkB x.branch), .string (mkB x.target), .string (mkB x.frm), .string (mkB x.name), .string (mkB x.reason)] 9)) (.cells #[.slice (some ⟨u.heap.size, 0, none⟩) 5 5] 35)) (List.prefix_refl _)) (fun s hs => by
            rw [List.mem_singleton.1 hs]
            exact Rd.of_row ((alloc_old _ _ (lt_of_block' h0)).trans h0) (List.prefix_refl _))
          simp only [World.size_alloc] at this
          exact this)
        have E3 : Hid (∀ u, OldB Y u → Calls Tryz.prog 95 #[.slice A1 x.edits.length c1, .int .i64 10] u fun e w' => e = .returned (.bool (fewEs (edsC x.edits) 10)) ∧ Below u.heap.size u w') := Lib.hid (fun u hu => fewes_any A1 _ c1 x.edits u rfl (r1.below (BO.out u hu)))
        have FE : Hid (fewR x.c = (listsB [x.parents, x.sla.sig, x.sla.path, x.sources, x.pseal.sig, x.pseal.path] && (listsB [[x.branch, x.target, x.frm, x.name, x.reason]] && (decide (x.trace.length ≤ 210) && fewEs (edsC x.edits) 10)))) := Lib.hid rfl
        have ZX : Hid ((Tryz.prog.info? 56).map (·.size) = some (rvL x).length) := Lib.hid (by kernel_rfl)
        have ZXA : Hid ((Tryz.prog.info? 56).map (·.size) = some (rvL x).toArray.size) := Lib.hid (by kernel_rfl)
        have NX : Hid ((rvL x).toArray.size ≤ 21) := Lib.hid (Nat.le_refl 21)
        have OEX := Lib.hid (rvL_oneW x ⟨_, HO⟩)
        have FX := Lib.hid (fun z (hz : z.length = 21) => setCells_freshG (P := Tryz.prog) wo 56 z (rvL x) ZXA.out (hz.trans rfl) OEX.out)
        have ZP : Hid ((Tryz.prog.info? 54).map (·.size) = some (prL x).length) := Lib.hid (by kernel_rfl)
        have ZPA : Hid ((Tryz.prog.info? 54).map (·.size) = some (prL x).toArray.size) := Lib.hid (by kernel_rfl)
        have NP : Hid ((prL x).toArray.size ≤ 7) := Lib.hid (Nat.le_refl 7)
        have OEP := Lib.hid (prL_oneW x ⟨_, HO⟩)
        have FP := Lib.hid (fun z (hz : z.length = 7) => setCells_freshG (P := Tryz.prog) X 54 z (prL x) ZPA.out (hz.trans rfl) OEP.out)
        have X0 := Lib.hid hX
        have X1 := Lib.hid hbx
        have Y0 := Lib.hid hY
        have Y1 := Lib.hid hbb
        clear HO hX hbx hY hbb BX BY OY XX YY YX YLX YLY XA XB v0 v1 v2 v3 v4 v5 v6 v7 r0 r1 r2 r3 r4 r6 r7
        generalize listsB [x.parents, x.sla.sig, x.sla.path, x.sources, x.pseal.sig, x.pseal.path] = q1 at *
        generalize listsB [[x.branch, x.target, x.frm, x.name, x.reason]] = q2 at *
        generalize fewEs (edsC x.edits) 10 = q4 at *
        generalize fewR x.c = F at *
        generalize rvL x = xs at *
        generalize prL x = ps at *
        generalize x.trace.length = n5 at *
        have SW : OldB Y Y := Below.refl _ _
        go_upto_region 6 with (first
          | (refine wpList_load_mid rfl 56 (.tmp 22) rfl b (off + k * 21) rfl xs _ LA.out Tryz.underlying56 rfl ZX.out ?_)
          | (refine wpList_store_mid rfl 56 (.tmp 6) (.tmp 23) rfl wo.heap.size 0 xs.toArray rfl rfl (there_of_row (heap_alloc_new wo _) NX.out) ZXA.out OEX.out ?_; rw [List.toList_toArray, FX.out _ rfl, ← X0.out, X1.out])
          | (refine wpList_load_mid rfl 54 (.tmp 24) rfl bx 14 rfl ps _ RP.out Tryz.underlying54 rfl ZP.out ?_)
          | (refine wpList_store_mid rfl 54 (.tmp 7) (.tmp 25) rfl X.heap.size 0 ps.toArray rfl rfl (there_of_row (heap_alloc_new X _) NP.out) ZPA.out OEP.out ?_; rw [List.toList_toArray, FP.out _ rfl, ← Y0.out, Y1.out]))
        clear LA X0 X1 FX OEX NX ZXA ZX RP Y0 Y1 FP OEP NP ZPA ZP
        go_wp2_with fail
        (with_reducible refine (E1.out _ SW).mono ?_)
        rintro e u1 ⟨rfl, t1⟩
        have O1 : OldB Y u1 := (SW.alloc _).then (by rw [World.size_alloc]; exact t1)
        clear t1 SW E1
        cases q1
        · have RF : Hid (R = false) := Lib.hid (by rw [HD.out, FE.out, Bool.false_and, Bool.false_and])
          clear HD FE
          go_wp2_with fail
          go_ret
          exact ⟨by rw [RF.out]; rfl, BA.out _ O1⟩
        have FE1 : Hid (F = (q2 && (decide (n5 ≤ 210) && q4))) := Lib.hid (by rw [FE.out, Bool.true_and])
        clear FE
        go_wp2_with fail
        (with_reducible refine (E2.out _ O1).mono ?_)
        rintro e u2 ⟨rfl, t2⟩
        have O2 : OldB Y u2 := ((O1.alloc _).alloc _).then (by rw [World.size_alloc, World.size_alloc]; exact t2)
        clear t2 O1 E2
        cases q2
        · have RF : Hid (R = false) := Lib.hid (by rw [HD.out, FE1.out, Bool.false_and, Bool.false_and])
          clear HD FE1
          go_wp2_with fail
          go_ret
          exact ⟨by rw [RF.out]; rfl, BA.out _ O2⟩
        have FE2 : Hid (F = (decide (n5 ≤ 210) && q4)) := Lib.hid (by rw [FE1.out, Bool.true_and])
        clear FE1
        by_cases h3 : n5 ≤ 210
        · have e7 : decide ((210 : Int) < (n5 : Int)) = false := by simp; omega
          have f7 : decide (210 < n5) = false := by simp; omega
          have FE3 : Hid (F = q4) := Lib.hid (by rw [FE2.out, decide_eq_true h3, Bool.true_and])
          clear FE2 h3
          go_wp2_with fail
          (with_reducible refine (E3.out _ O2).mono ?_)
          rintro e u3 ⟨rfl, t3⟩
          have O3 : OldB Y u3 := O2.then t3
          clear t3 O2 E3
          cases q4
          · have RF : Hid (R = false) := Lib.hid (by rw [HD.out, FE3.out, Bool.false_and])
            clear HD FE3
            go_wp2_with fail
            go_ret
            exact ⟨by rw [RF.out]; rfl, BA.out _ O3⟩
          · have RN : Hid (R = (rcsC (l.drop (k + 1))).all fewR) := Lib.hid (by rw [HD.out, FE3.out, Bool.true_and])
            have BF := Lib.hid (BA.out _ O3)
            clear HD FE3
            go_wp2_with fail
            exact ⟨⟨k + 1, by omega, by go_num, ⟨_, rfl⟩, ⟨_, rfl⟩, RN, BF⟩, by simp [intOf]; omega⟩
        · have e7 : decide ((210 : Int) < (n5 : Int)) = true := by simp; omega
          have f7 : decide (210 < n5) = true := by simp; omega
          have RF : Hid (R = false) := Lib.hid (by rw [HD.out, FE2.out, decide_eq_false h3, Bool.false_and, Bool.false_and])
          clear HD FE2 h3
          go_wp2_with fail
          go_ret
          exact ⟨by rw [RF.out]; rfl, BA.out _ O2⟩
      · have d1 : ¬ (k : Int) < (n : Int) := by omega
        have RT : Hid (R = true) := Lib.hid (by rw [HR.out, List.drop_eq_nil_of_le (by rw [← HN.out]; omega)]; rfl)
        clear HR
        go_wp2_with fail
        go_ret
        exact ⟨by rw [RT.out]; rfl, BL.out⟩
  · have e1 : decide ((n : Int) ≤ (most : Int)) = false := by simp; omega
    have e2 : decide (n ≤ most) = false := by simp; omega
    have e3 : (0 : Int) < (n : Int) := by omega
    have RF : Hid (R = false) := Lib.hid (by rw [HR.out, decide_eq_false hs, Bool.false_and])
    clear HR hs
    go_enter Tryz.func48, Tryz.ntmps48
    go_wp2_with fail
    go_loopw [5, 6, 7] (fun s5 s6 s7 wr => s5 = .int .i64 0 ∧ (∃ p, s6 = p) ∧ (∃ p, s7 = p) ∧ wr = w) (fun i _ _ _ => 0)
    case atStart => exact ⟨rfl, ⟨_, rfl⟩, ⟨_, rfl⟩, rfl⟩
    case round =>
      obtain ⟨rfl, ⟨p6, rfl⟩, ⟨p7, rfl⟩, rfl⟩ := hrel
      go_wp2_with fail
      go_ret
      exact ⟨by rw [RF.out]; rfl, B0.out⟩
structure RL where
  A : Option Addr
  c : Nat
  l : List RV
end Go.Proofs.YtniklmikdkjgiaaGreatDoor
