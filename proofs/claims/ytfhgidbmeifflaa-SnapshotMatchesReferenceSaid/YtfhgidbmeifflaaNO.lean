/- WALK: slices.DeleteFunc at values. -/
import Derived.Test.YtfhgidbmeifflaaNL
set_option linter.unusedSimpArgs false
set_option linter.unusedVariables false
namespace Go.Proofs.Ytfhgidbmeifflaa
open Go.RowKit Go.Maps Go.ChangeMaps Go.MapKept Go.WideShapes Go.WideMaps

theorem But.mono {X Y : Nat → Prop} {w w' : World} (h : But X w w') (hxy : ∀ x, X x → Y x) : But Y w w' := ⟨h.os, h.tape, h.output, h.size, fun k hk hx => h.block k hk (fun e => hx (hxy k e))⟩
def DelPost (p : Nat → Bool) (l : List Sn.Val) (base g c bi : Nat) (w : World) (e : Ending) (w' : World) : Prop :=
  e = .returned (.slice (some ⟨g, 0, none⟩) (Sn.collFrom p 0 l).length c) ∧ w'.ownsRow base 62 4 (.slice (some ⟨g, 0, none⟩) (Sn.collFrom p 0 l).length c) (Sn.collFrom p 0 l).length (rows (Sn.collFrom p 0 l)) ∧ But (fun x => x = bi ∨ x = g) w w'
set_option maxHeartbeats 4000000 in
set_option maxRecDepth 100000 in
theorem delete_any (g n c : Nat) (l : List Sn.Val) (base bi b9 bn nn : Nat) (Q : Int → Bool) (w : World) (hn : n = l.length) (hl : l.length ≤ 1000000) (h : w.ownsRow base 62 4 (.slice (some ⟨g, 0, none⟩) n c) n (rows l))
    (g1 : ¬ g = bi) (g2 : ¬ g = b9) (g3 : ¬ g = bn) (hC : Clo w bi b9 bn Q nn (-1)) :
    Calls Try.prog 32 #[.slice (some ⟨g, 0, none⟩) n c, .func (.func 33) #[] #[.pointer (some ⟨bi, 0, none⟩), .pointer (some ⟨b9, 0, none⟩)]] w
      (DelPost (fun i => Q (i : Int)) l base g c bi w) := by
  have IX := Lib.hid (index_any (some ⟨g, 0, none⟩) n c l bi b9 bn nn Q w hn hl (own_rd h) (fun b off e => by cases e; exact g1) hC)
  have H := Lib.hid h
  have HN := Lib.hid hn
  have hc : n ≤ c := by
    rcases h.2 with ⟨e1, _⟩ | ⟨g', cap, cur, e1, e2, e3, e4, _⟩
    · cases e1
    · cases e1; exact e4
  have hcm : c ≤ 9223372036854775807 := by
    rcases h.2 with ⟨e1, _⟩ | ⟨g', cap, cur, e1, e2, e3, e4, e5, _⟩
    · cases e1
    · cases e1; exact e5
  rw [← hn] at hl
  clear h hC hn
  go_enter Try.func32, Try.ntmps32
  go_wp2_with fail
  refine IX.out.mono ?_
  rintro e w1 ⟨k, hk, hal, hb1, hx⟩
  have H1 : Hid (w1.ownsRow base 62 4 (.slice (some ⟨g, 0, none⟩) n c) n (rows l)) := Lib.hid (H.out.kept ⟨hb1.os, hb1.tape, hb1.output, hb1.size, fun k hk hne => hb1.block k hk (fun e => hne (by rw [e]))⟩ (.inr (fun e => by
    have e : some g = some bi := e
    cases e; exact g1 rfl)))
  rcases hx with ⟨hkn, rfl⟩ | ⟨hkn, hq, rfl, hC⟩
  · have CE : Sn.collFrom (fun i => Q (i : Int)) 0 l = l := Sn.collFrom_all 0 l (fun i hi => by rw [Nat.zero_add]; exact hal i (by rw [hkn, HN.out]; exact hi))
    have B1 := Lib.hid hb1
    clear hb1 hal
    go_wp2_with fail
    go_ret
    refine ⟨?_, ?_, B1.out.mono (fun x hx => .inl hx)⟩
    · rw [CE, ← HN.out]; simp [HN.out]
    · rw [CE, ← HN.out]; exact H1.out
  · have DI : Hid (DelI (fun i => Q (i : Int)) l l k (k + 1)) := Lib.hid (DelI.start (by rw [← HN.out]; exact hkn) hal hq)
    have B1 : Hid (But (fun x => x = bi ∨ x = g) w w1) := Lib.hid (hb1.mono (fun x hx => .inl hx))
    have C1 := Lib.hid hC
    have kn : ((k : Int) == -1) = false := by simp
    clear hb1 hal hC IX
    go_wp2_with fail
    go_loopw [5, 6] (fun s5 s6 wr => ∃ (a j : Nat) (m : List Sn.Val), s5 = .int .i64 (a : Int) ∧ s6 = .int .i64 (j : Int) ∧ j ≤ n ∧ Hid (DelI (fun i => Q (i : Int)) l m a j) ∧ Hid (wr.ownsRow base 62 4 (.slice (some ⟨g, 0, none⟩) n c) n (rows m)) ∧ Hid (Clo wr bi b9 bn Q nn ((j : Int) - 1)) ∧ Hid (But (fun x => x = bi ∨ x = g) w wr)) (fun _ j _ => n - (intOf j).toNat)
    case atStart => exact ⟨k, k + 1, l, rfl, by go_num, hkn, DI, H1, by have := C1; rwa [show ((k + 1 : Nat) : Int) - 1 = (k : Int) by omega], B1⟩
    case round =>
      clear DI H1 C1 B1 kn hq hkn hk H
      obtain ⟨a, j, m, rfl, rfl, hjn, DI, OW, CW, BW⟩ := hrel
      have haj := DI.out.lt
      by_cases hlt : j < n
      · have hjl : j < l.length := by have := HN.out; omega
        have hjm : j < m.length := by rw [DI.out.len]; exact hjl
        have ham : a < m.length := by omega
        have d1 : (j : Int) < (n : Int) := by omega
        have d2 : (0 : Int) ≤ (j : Int) := by omega
        have d3 : (a : Int) < (n : Int) := by omega
        have d4 : (0 : Int) ≤ (a : Int) := by omega
        have GJ := DI.out.getj hjl
        have hcc : ∀ f u, (vCells l[j])[f]? = some u → wr.cell? ⟨g, j * 4 + f, none⟩ = some u := fun f u hu => by
          have hf4 : f < 4 := (List.getElem?_eq_some_iff.1 hu).1
          rw [OW.out.cellAt _ (by omega)]
          exact rows_get hjm (by rw [GJ]; exact hu)
        have c0 : wr.cell? ⟨g, j * 4, none⟩ = some (.int .i64 (l[j].since : Int)) := hcc 0 _ rfl
        have c1 := hcc 1 _ rfl
        have c2 := hcc 2 _ rfl
        have c3 := hcc 3 _ rfl
        have CL := Lib.hid (fun u (hu : Below wr.heap.size wr u) => coll1_any l[j] bi b9 bn nn Q ((j : Int) - 1) u (CW.out.keep (hu.block _ (lt_of_block CW.out.ci)) (hu.block _ (lt_of_block CW.out.c9)) (hu.block _ CW.out.m.lt)) (by omega) (by omega))
        have e1 : (j : Int) - 1 + 1 = (j : Int) := by omega
        rw [e1] at CL
        clear e1 hcc
        unfold vAgg at CL
        have RS : Hid (∀ {p q r s : Value}, vCells l[j] = [p, q, r, s] → _) := Lib.hid (rows_set ham l[j])
        have MV : Hid (Q (j : Int) = true → DelI (fun i => Q (i : Int)) l (m.set a l[j]) (a + 1) (j + 1)) := Lib.hid (fun hq => DI.out.move hjl hq)
        have SK : Hid (Q (j : Int) = false → DelI (fun i => Q (i : Int)) l m a (j + 1)) := Lib.hid (fun hq => DI.out.skip hjl hq)
        have VC : Hid (vCells l[j] = [.int .i64 (l[j].since : Int), .string (mkB l[j].text), .bool l[j].gone, .bool l[j].forgot]) := Lib.hid rfl
        clear GJ
        generalize hlj : l[j] = lj at *
        clear hlj
        generalize lj.since = sn at *
        generalize mkB lj.text = tx at *
        generalize lj.gone = gn at *
        generalize lj.forgot = fg at *
        have ON := Lib.hid (fun o => own_rd (OW.out.alloc o))
        have hgz : g < wr.heap.size := (OW.out.lt g rfl).2
        go_wp2_with fail
        refine (CL.out _ ((Below.refl _ _).alloc (Nat.le_refl _) _)).mono ?_
        rintro e w2 ⟨rfl, hc2, hb2⟩
        have hne : ¬ wr.heap.size = bi := by have := lt_of_block CW.out.ci; omega
        have BV : w2.heap[wr.heap.size]? = some (.cells #[.int .i64 (sn : Int), .string tx, .bool gn, .bool fg] 62 (0, 0)) := (hb2.block _ (by simp) hne).trans (heap_alloc_new wr _)
        have v0 : w2.cell? ⟨wr.heap.size, 0, none⟩ = some (.int .i64 (sn : Int)) := cell_of_row w2 _ 0 _ _ _ BV
        have v1 : w2.cell? ⟨wr.heap.size, 1, none⟩ = some (.string tx) := cell_of_row w2 _ 1 _ _ _ BV
        have v2 : w2.cell? ⟨wr.heap.size, 2, none⟩ = some (.bool gn) := cell_of_row w2 _ 2 _ _ _ BV
        have v3 : w2.cell? ⟨wr.heap.size, 3, none⟩ = some (.bool fg) := cell_of_row w2 _ 3 _ _ _ BV
        have OW2 : Hid (w2.ownsRow base 62 4 (.slice (some ⟨g, 0, none⟩) n c) n (rows m)) := Lib.hid ((OW.out.alloc _).kept ⟨hb2.os, hb2.tape, hb2.output, hb2.size, fun k hk hne => hb2.block k hk (fun e => hne (by rw [e]))⟩ (.inr (fun e => by
          have e : some g = some bi := e
          cases e; exact g1 rfl)))
        have C2 := Lib.hid hc2
        have B2 : Hid (But (fun x => x = bi ∨ x = g) w w2) := Lib.hid ((BW.out.alloc _).trans (hb2.mono (fun x hx => .inl hx)))
        have hz2 : g < w2.heap.size := (OW2.out.lt g rfl).2
        have e2 : ((j + 1 : Nat) : Int) - 1 = (j : Int) := by omega
        clear hc2 hb2 BV c0 c1 c2 c3 CL
        cases hq : Q (j : Int)
        · have SKQ := SK.out hq
          have SKH := Lib.hid SKQ
          clear SKQ MV SK RS VC
          go_wp2_with fail
          exact ⟨⟨a, j + 1, m, rfl, by go_num, hlt, SKH, OW2, by rw [e2]; exact C2, B2⟩, by simp [intOf]; omega⟩
        · have MVH := Lib.hid (MV.out hq)
          have hcc : ∀ f u, (vCells m[a])[f]? = some u → w2.cell? ⟨g, a * 4 + f, none⟩ = some u := fun f u hu => by
            have hf4 : f < 4 := (List.getElem?_eq_some_iff.1 hu).1
            rw [OW2.out.cellAt _ (by omega)]
            exact rows_get ham hu
          have y0 : w2.cell? ⟨g, a * 4, none⟩ = some (.int .i64 (m[a].since : Int)) := hcc 0 _ rfl
          have y1 := hcc 1 _ rfl
          have y2 := hcc 2 _ rfl
          have y3 := hcc 3 _ rfl
          have f0 := OW2.out.frozenAt (a * 4)
          have f1 := OW2.out.frozenAt (a * 4 + 1)
          have f2 := OW2.out.frozenAt (a * 4 + 2)
          have f3 := OW2.out.frozenAt (a * 4 + 3)
          obtain ⟨o1, q1⟩ := OW2.out.stored (a * 4) (.int .i64 (sn : Int))
          obtain ⟨o2, q2⟩ := o1.stored (a * 4 + 1) (.string tx)
          obtain ⟨o3, q3⟩ := o2.stored (a * 4 + 2) (.bool gn)
          obtain ⟨o4, q4⟩ := o3.stored (a * 4 + 3) (.bool fg)
          rw [RS.out VC.out] at o4
          have O4 := Lib.hid o4
          have hnr : ¬ wr.heap.size = g := by omega
          have C4 : Hid (Clo ((((w2.setCell ⟨g, a * 4, none⟩ (.int .i64 (sn : Int))).setCell ⟨g, a * 4 + 1, none⟩ (.string tx)).setCell ⟨g, a * 4 + 2, none⟩ (.bool gn)).setCell ⟨g, a * 4 + 3, none⟩ (.bool fg)) bi b9 bn Q nn (j : Int)) := Lib.hid (by
            have sm : ∀ k, ¬ g = k → ((((w2.setCell ⟨g, a * 4, none⟩ (.int .i64 (sn : Int))).setCell ⟨g, a * 4 + 1, none⟩ (.string tx)).setCell ⟨g, a * 4 + 2, none⟩ (.bool gn)).setCell ⟨g, a * 4 + 3, none⟩ (.bool fg)).heap[k]? = w2.heap[k]? := fun k hk => by
              rw [Below.heap_setCell _ _ _ _ (fun e => hk e.symm), Below.heap_setCell _ _ _ _ (fun e => hk e.symm), Below.heap_setCell _ _ _ _ (fun e => hk e.symm), Below.heap_setCell _ _ _ _ (fun e => hk e.symm)]
            exact C2.out.keep (sm _ g1) (sm _ g2) (sm _ g3))
          have B4 : Hid (But (fun x => x = bi ∨ x = g) w ((((w2.setCell ⟨g, a * 4, none⟩ (.int .i64 (sn : Int))).setCell ⟨g, a * 4 + 1, none⟩ (.string tx)).setCell ⟨g, a * 4 + 2, none⟩ (.bool gn)).setCell ⟨g, a * 4 + 3, none⟩ (.bool fg))) := Lib.hid ((((B2.out.set (.inr rfl) _).set (.inr rfl) _).set (.inr rfl) _).set (.inr rfl) _)
          clear o1 o2 o3 o4 q1 q2 q3 q4 hcc MV SK RS VC
          generalize m[a].since = ms at *
          generalize mkB m[a].text = mt at *
          generalize m[a].gone = mg at *
          generalize m[a].forgot = mf at *
          go_wp2_with fail
          exact ⟨⟨a + 1, j + 1, _, by go_num, by go_num, hlt, MVH, O4, by rw [e2]; exact C4, B4⟩, by simp [intOf]; omega⟩
      · have d1 : ¬ (j : Int) < (n : Int) := by omega
        have hj : j = l.length := by have := HN.out; omega
        subst hj
        obtain ⟨dn1, dn2⟩ := DI.out.done
        have a1 : (a : Int) ≤ (n : Int) := by omega
        have a2 : (0 : Int) ≤ (a : Int) := by omega
        have a3 : ¬ c = a := by omega
        have a4 : (a : Int) ≤ (c : Int) := by omega
        have hml := DI.out.len
        have hcl : ∀ ty, (Builtin.clear_ #[60] ty #[.slice (some ⟨g, a * 4, none⟩) (n - a) (c - a)]).run Try.prog wr = .ok (.tuple #[]) (wr.setCells g (a * 4) (Builtin.zeroCells #[.int .i64 0, .string .empty, .bool false, .bool false] (n - a)).toList) := fun ty =>
          run_clear_vals wr _ _ ty _ Try.underlying60 info_val g _ _ _ (by omega) (fun i hi => by
            rw [OW.out.cellAt _ (by omega), List.getElem?_eq_getElem (by rw [rows_len, hml, ← HN.out]; omega)]; rfl) (fun i _ => OW.out.frozenAt _)
        have FR := own_front OW.out a (by omega)
        rw [rows_take, dn1] at FR
        have FIN := Lib.hid (own_behind (Builtin.zeroCells #[.int .i64 0, .string .empty, .bool false, .bool false] (n - a)).toList (a * 4) wr FR (by rw [rows_len, dn2]; exact Nat.le_refl _))
        have D2 := Lib.hid dn2
        clear FR dn1 dn2 hml
        go_wp2_with fail
        go_ret
        refine ⟨by rw [D2.out]; rfl, by rw [D2.out]; exact FIN.out, But.setCells (X := fun x => x = bi ∨ x = g) (.inr rfl) _ _ _ BW.out⟩
end Go.Proofs.Ytfhgidbmeifflaa
