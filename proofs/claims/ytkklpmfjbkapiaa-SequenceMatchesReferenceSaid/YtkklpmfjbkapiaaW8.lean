/- WALKS: merging. -/
import Derived.Test.YtkklpmfjbkapiaaW7b
import Derived.Maps.OwnSet
import Derived.Maps.OwnOps
import Derived.Maps.Own
import Derived.Deep.RegionHeld3
import Derived.Deep.CutRange
import Derived.Deep.RegionWith
namespace Go.Proofs.Ytkklpmfjbkapiaa
open Go.RowKit Go.Maps

theorem info_stable : (Try.prog.info? 48).map (fun i => (i.zero, i.size, i.bytes)) = some (some (.agg #[.int .i64 0, .int .i64 0, .int .i64 0]), 3, 24) := by kernel_rfl

set_option maxHeartbeats 800000 in
theorem merge_long (A B C : Option Addr) (c d f n m k : Nat) (w : World) (h : 2000 < n ∨ 2000 < m ∨ 2000 < k) :
    Calls Try.prog 11 #[.slice A n c, .slice B m d, .slice C k f] w fun e w' => e = .returned (.tuple #[.slice none 0 0, .bool false]) ∧ Below w.heap.size w w' := by
  have hb : big [(A, n, c), (B, m, d), (C, k, f)] = true := by simpa [big] using h
  have hrd := Lib.hid (rd_three w (A, n, c) (B, m, d) (C, k, f) 22)
  clear h
  go_enter Try.func11, Try.ntmps11
  go_wp2_with fail
  refine (short_f _ _ [(A, n, c), (B, m, d), (C, k, f)] 3 _ rfl (by simp) hrd.out hb).mono ?_
  rintro e w' ⟨rfl, rfl⟩
  go_wp2
  go_ret2
  exact ⟨rfl, (Below.refl _ _).alloc (Nat.le_refl _) _⟩


/-- the map from one list's places to the other's -/
def mD (P : List (Nat × Nat)) : DataW Unit := P.foldl (fun D p => D.put (.int .i64 p.1) (.lit (.int .i64 p.2))) (.map [])
theorem mD_snoc (P : List (Nat × Nat)) (p : Nat × Nat) : mD (P ++ [p]) = (mD P).put (.int .i64 p.1) (.lit (.int .i64 p.2)) := by simp [mD, List.foldl_append]
theorem isKey (n : Nat) : WideAt.IsKeyLit (.int .i64 (n : Int)) := by trivial
theorem mD_isMap (P : List (Nat × Nat)) : Maps.IsMap (mD P) := by
  rcases List.eq_nil_or_concat P with rfl | ⟨Q, p, rfl⟩
  · exact Maps.isMap_empty
  · rw [List.concat_eq_append, mD_snoc]
    have : ∀ Q : List (Nat × Nat), Maps.IsMap (mD Q) := by
      intro Q
      unfold mD
      suffices h : ∀ (D : DataW Unit), Maps.IsMap D → Maps.IsMap (Q.foldl (fun D p => D.put (.int .i64 p.1) (.lit (.int .i64 p.2))) D) from h _ Maps.isMap_empty
      induction Q with
      | nil => intro D h; exact h
      | cons q Q ih => intro D h; exact ih _ (h.put _ _)
    exact (this Q).put _ _
theorem mD_asg (n : Nat) : ∀ (P : List (Nat × Nat)) (i k : Nat), P.length = n → Sq.Inc i k P → ∀ a, Maps.has (mD P) (.int .i64 (a : Nat)) = (Sq.asg P a).isSome ∧
    (mD P).atKey (.int .i64 (a : Nat)) (.lit (.int .i64 0)) = .lit (.int .i64 ((Sq.asg P a).getD 0 : Nat)) := by
  induction n with
  | zero => intro P i k hl _ a; obtain rfl := List.eq_nil_of_length_eq_zero hl; exact ⟨rfl, rfl⟩
  | succ n ih =>
    intro P i k hl hi a
    rcases List.eq_nil_or_concat P with rfl | ⟨Q, p, rfl⟩
    · cases hl
    · rw [List.concat_eq_append] at *
      have hQ : Sq.Inc i k Q := by
        clear ih hl
        induction Q generalizing i k with
        | nil => trivial
        | cons x Q ihQ => obtain ⟨x1, x2⟩ := x; exact ⟨hi.1, hi.2.1, ihQ _ _ hi.2.2⟩
      have hlast : Sq.asg Q p.1 = none := by
        cases e : Sq.asg Q p.1 with
        | none => rfl
        | some q =>
          exfalso
          have hm := Sq.asg_mem e
          clear ih hl e hQ
          induction Q generalizing i k with
          | nil => cases hm
          | cons x Q ihQ =>
            obtain ⟨x1, x2⟩ := x
            rcases List.mem_cons.1 hm with e | hm
            · injection e with e1 e2
              have := hi.2.2.mem (p := p) (by simp)
              omega
            · exact ihQ _ _ hi.2.2 hm
      obtain ⟨g1, g2⟩ := ih Q i k (by simpa using hl) hQ a
      rw [mD_snoc, Sq.asg_append]
      by_cases e : a = p.1
      · subst e
        rw [hlast, Maps.has_put_same (mD_isMap Q) (isKey _), Maps.atKey_put_same (mD_isMap Q) (isKey _)]
        obtain ⟨p1, p2⟩ := p
        simp [Sq.asg]
      · have hne : (Lit.int .i64 (a : Nat)) ≠ Lit.int .i64 (p.1 : Nat) := by
          intro h; injection h with _ h; exact e (by exact_mod_cast h)
        rw [Maps.has_put_other hne, Maps.atKey_put_other hne, g1, g2]
        obtain ⟨p1, p2⟩ := p
        have : Sq.asg [(p1, p2)] a = none := by simp only [Sq.asg]; rw [if_neg (fun h => e h.symm)]
        rw [this, Option.or_none]
        exact ⟨rfl, rfl⟩
/-- what Merge leaves (behind a name: the walk would take its cases apart) -/
def MergePost (w : World) (b o t : List ByteArray) (e : Ending) (w' : World) : Prop := Below w.heap.size w w' ∧
  match Sq.mrg b o t with
  | none => e = .returned (.tuple #[.slice none 0 0, .bool false])
  | some l => ∃ v : Value, e = .returned (.tuple #[v, .bool true]) ∧ w'.ownsRow w.heap.size 9 1 v l.length (l.map Value.string)
theorem mergePost_some {w w' : World} {b o t l : List ByteArray} {v : Value} (h : Sq.mrg b o t = some l) (hb : Below w.heap.size w w') (hv : w'.ownsRow w.heap.size 9 1 v l.length (l.map Value.string)) : MergePost w b o t (.returned (.tuple #[v, .bool true])) w' := by
  unfold MergePost; rw [h]; exact ⟨hb, v, rfl, hv⟩
theorem mergePost_none {w w' : World} {b o t : List ByteArray} (h : Sq.mrg b o t = none) (hb : Below w.heap.size w w') : MergePost w b o t (.returned (.tuple #[.slice none 0 0, .bool false])) w' := by
  unfold MergePost; rw [h]; exact ⟨hb, rfl⟩

/-- what the drawn statement leaves: the merged chunk, the three rests cut -/
structure CutMerged (w0 : World) (gx gy gz : Nat) (b o t : List ByteArray) (ch : Option (List ByteArray)) (pi pj pm p q r : Nat) (w : World) (v : Value) (w' : World) : Prop where
  part : ∀ c, ch = some c → ∃ A n cap, v = .slice A n cap ∧ n = c.length ∧ Rd w0 A (c.map Value.string)
  x : Hold w0 w' gx (b.drop (p + 1))
  y : Hold w0 w' gy (o.drop (q + 1))
  z : Hold w0 w' gz (t.drop (r + 1))
  but : But3 gx gy gz w w'

theorem intKey : Maps.Keyed Try.prog 3 := Maps.int_keyed Try.underlying3
theorem zeroInt (w : World) : (zeroValue 3).run Try.prog w = .ok (.int .i64 0) w := by kernel_rfl

set_option maxRecDepth 100000 in
set_option maxHeartbeats 6400000 in
theorem merge_any (hm : MatchSaid) (A B C : Option Addr) (c1 c2 c3 : Nat) (b o t : List ByteArray) (nb no nt : Nat) (w : World) (hb : nb = b.length) (ho : no = o.length) (ht : nt = t.length) (lb : b.length ≤ 2000) (lo : o.length ≤ 2000) (lt : t.length ≤ 2000)
    (cb : b.length ≤ c1) (co : o.length ≤ c2) (ct : t.length ≤ c3) (cb' : c1 ≤ 9223372036854775807) (co' : c2 ≤ 9223372036854775807) (ct' : c3 ≤ 9223372036854775807)
    (h1 : Rd w A (b.map Value.string)) (h2 : Rd w B (o.map Value.string)) (h3 : Rd w C (t.map Value.string)) :
    Calls Try.prog 11 #[.slice A nb c1, .slice B no c2, .slice C nt c3] w (MergePost w b o t) := by
  subst hb ho ht
  have HM := Lib.hid hm; clear hm
  have H1 := Lib.hid h1; clear h1
  have H2 := Lib.hid h2; clear h2
  have H3 := Lib.hid h3; clear h3
  have hbg : big [(A, b.length, c1), (B, o.length, c2), (C, t.length, c3)] = false := by simp [big]; omega
  have hrd := Lib.hid (rd_three w (A, b.length, c1) (B, o.length, c2) (C, t.length, c3) 22)
  have hmm := @run_makeMap Try.prog
  go_enter Try.func11, Try.ntmps11
  go_wp2_with fail
  refine (short_t _ _ [(A, b.length, c1), (B, o.length, c2), (C, t.length, c3)] 3 _ rfl (by simp) hrd.out hbg).mono ?_
  rintro e w' ⟨rfl, rfl⟩
  have HB0 : Hid (Below w.heap.size w ((w.alloc (.cells #[slv (A, b.length, c1), slv (B, o.length, c2), slv (C, t.length, c3)] 22)).alloc (.map #[] 0))) := ((Below.refl _ _).alloc (Nat.le_refl _) _).alloc (by simp) _
  have HM0 := Lib.hid (World.ownsMap_made (H := Unit) (w.alloc (.cells #[slv (A, b.length, c1), slv (B, o.length, c2), slv (C, t.length, c3)] 22)) Try.prog 3 (plainElem Try.prog 3))
  have hz0 : ((w.alloc (.cells #[slv (A, b.length, c1), slv (B, o.length, c2), slv (C, t.length, c3)] 22)).alloc (.map #[] 0)).heap.size = w.heap.size + 2 := by simp
  go_wp2_with fail
  refine (HM.out A C c1 c3 b t _ lb lt (H1.out.below HB0.out) (H3.out.below HB0.out)).mono ?_
  rintro e w1 ⟨v, rfl, hown, hbel⟩
  rw [hz0] at hown hbel
  obtain ⟨A1, d1, rfl, hd1, hd2⟩ := own_form hown
  have HP := Lib.hid (RdP.of_own hown)
  have HB1 : Hid (Below w.heap.size w w1) := HB0.out.trans (hbel.mono (by omega))
  have HMp : Hid (w1.ownsMap Try.prog 3 (plainElem (H := Unit) Try.prog 3) (w.heap.size + 1) 0 (mD [])) := by
    obtain ⟨es, cl, e1, e2⟩ := HM0.out
    exact ⟨es, cl, (hbel.block _ (by omega)).trans (by simpa using e1), e2⟩
  have hsz1 : w.heap.size + 2 ≤ w1.heap.size := by have := hbel.size; omega
  have HYi : Hid (∀ p ∈ Sq.mt b t 0 0, p.1 < b.length ∧ p.2 < t.length) := Sq.mt_in b t
  have HYc := Lib.hid (Sq.mt_inc b t 0 0)
  have hYlen : (Sq.mt b t 0 0).length ≤ 2000 := by
    have h1 := Sq.mt_len b t
    have h2 := Sq.lcs_le_left b t
    omega
  have HYd : Hid (Sq.stabOf b o t = Sq.stab (Sq.mt b o 0 0) (Sq.mt b t 0 0)) := rfl
  clear hown hbel hrd HB0 HM0 hz0 hbg
  generalize Sq.mt b t 0 0 = Y at *
  go_wp2_with fail
  go_loopw [36] (fun i wr => ∃ (k : Nat), k ≤ Y.length ∧ i = .int .i64 k ∧ Hid (wr.ownsMap Try.prog 3 (plainElem (H := Unit) Try.prog 3) (w.heap.size + 1) k (mD (Y.take k))) ∧ Hid (w1.grownBy wr (some (w.heap.size + 1)))) (fun i _ => Y.length - (intOf i).toNat)
  case atStart => exact ⟨0, Nat.zero_le _, rfl, HMp, World.grownBy.refl _ _⟩
  case round =>
    obtain ⟨k, hk, rfl, hmap, hgr⟩ := hrel
    by_cases hlt : k < Y.length
    · obtain ⟨g, rfl, hbg, hg, cg1, cg2⟩ := (HP.out.grown hgr.out (fun k e => by cases e; omega)) k hlt
      have HF : Hid (Y.take (k + 1) = Y.take k ++ [Y[k]]) := Lib.hid (List.take_succ_eq_append_getElem hlt)
      obtain ⟨⟨p1, p2⟩, hp⟩ : ∃ p, p = Y[k] := ⟨_, rfl⟩
      have hin := HYi.out _ (List.getElem_mem hlt)
      rw [← hp] at cg1 cg2 HF hin
      simp only at cg1 cg2 hin
      obtain ⟨hp1, hp2⟩ := hin
      have hw1 : (Lit.int .i64 (p1 : Int)).wf = true := WalkArith.wf_i64 (by omega)
      have hw2 : (Lit.int .i64 (p2 : Int)).wf = true := WalkArith.wf_i64 (by omega)
      have hkey := Maps.keyOf_int_mk (P := Try.prog) Try.underlying3 hw1
      have hval := plainElem_int (H := Unit) (P := Try.prog) Try.underlying3 hw2
      have Hk := Lib.hid hkey
      have Hv := Lib.hid hval
      clear hp hkey hval hw1 hw2
      go_wp2_with (at_mapUpdate; refine wpList_mapUpdate_own _ rfl _ _ _ 40 rfl 3 3 intKey Try.underlying40 _ (w.heap.size + 1) k _ rfl (hmap.out.alloc _) (by unfold maxLen; omega) _ _ _ rfl rfl Hk.out _ [] Hv.out ?_; intro w2 hmap2 hgr2)
      refine ⟨⟨k + 1, hlt, by go_num, ?_, (hgr.out.trans (World.grownBy_alloc _ _ _)).trans hgr2⟩, by simp [intOf]; omega⟩
      show w2.ownsMap _ _ _ _ _ _
      rw [HF.out, mD_snoc]
      exact hmap2
    · have he : Hid (Y.take k = Y) := Lib.hid (by rw [List.take_of_length_le (by omega)])
      obtain rfl : k = Y.length := by omega
      have hmapY : Hid (wr.ownsMap Try.prog 3 (plainElem (H := Unit) Try.prog 3) (w.heap.size + 1) Y.length (mD Y)) := Lib.hid (by have := hmap.out; rwa [he.out] at this)
      have HB2 : Hid (Below w.heap.size w wr) := HB1.out.trans ((Below.refl _ _).grown hgr.out (by omega) (fun k e => by cases e; omega))
      have hsz2 : w.heap.size + 2 ≤ wr.heap.size := by have := hgr.out.size; omega
      clear hmap hgr he HP HMp HB1 hd1 hd2
      go_wp2_with fail
      refine (HM.out A B c1 c2 b o _ lb lo (H1.out.below HB2.out) (H2.out.below HB2.out)).mono ?_
      rintro e w2 ⟨v, rfl, hown, hbel⟩
      obtain ⟨A2, d2, rfl, hd1, hd2⟩ := own_form hown
      have HQ := Lib.hid (RdP.of_own hown)
      have HB3 : Hid (Below w.heap.size w w2) := HB2.out.trans (hbel.mono (by omega))
      have hmapZ : Hid (w2.ownsMap Try.prog 3 (plainElem (H := Unit) Try.prog 3) (w.heap.size + 1) Y.length (mD Y)) := by
        obtain ⟨es, cl, e1, e2⟩ := hmapY.out
        exact ⟨es, cl, (hbel.block _ (by omega)).trans e1, e2⟩
      have hsz3 : w.heap.size + 2 ≤ w2.heap.size := by have := hbel.size; omega
      have HXi : Hid (∀ p ∈ Sq.mt b o 0 0, p.1 < b.length ∧ p.2 < o.length) := Sq.mt_in b o
      have HXc := Lib.hid (Sq.mt_inc b o 0 0)
      have hXlen : (Sq.mt b o 0 0).length ≤ 2000 := by
        have h1 := Sq.mt_len b o
        have h2 := Sq.lcs_le_left b o
        omega
      clear hown hbel hmapY HB2
      generalize Sq.mt b o 0 0 = X at *
      have hbl : 2000 < 9223372036854775807 := by omega
      go_wp2_with fail
      go_loopw [11, 50] (fun v i ws => ∃ (k : Nat), k ≤ X.length ∧ i = .int .i64 k ∧ (Sq.stab (X.take k) Y).length ≤ k ∧ Hid (ws.ownsRow w2.heap.size 48 3 v (Sq.stab (X.take k) Y).length ((Sq.stab (X.take k) Y).flatMap stCells)) ∧ Hid (Below w2.heap.size w2 ws)) (fun _ i _ => X.length - (intOf i).toNat)
      case atStart => exact ⟨0, Nat.zero_le _, rfl, Nat.le_refl _, World.ownsRow_nil _ _ _ _, Below.refl _ _⟩
      case round =>
        obtain ⟨k, hk, rfl, hle, hown, hbel⟩ := hrel
        by_cases hlt : k < X.length
        · obtain ⟨g, rfl, hbg, hg, cg1, cg2⟩ := (HQ.out.below hbel.out) k hlt
          have HF : Hid (X.take (k + 1) = X.take k ++ [X[k]]) := Lib.hid (List.take_succ_eq_append_getElem hlt)
          obtain ⟨⟨p1, p2⟩, hp⟩ : ∃ p, p = X[k] := ⟨_, rfl⟩
          have hin := HXi.out _ (List.getElem_mem hlt)
          rw [← hp] at cg1 cg2 HF hin
          simp only at cg1 cg2 hin
          obtain ⟨hp1, hp2⟩ := hin
          have hw1 : (Lit.int .i64 (p1 : Int)).wf = true := WalkArith.wf_i64 (by omega)
          have Hk := Lib.hid (Maps.keyOf_int_mk (P := Try.prog) Try.underlying3 hw1)
          have hsz : w2.heap.size ≤ wr.heap.size := hbel.out.size
          have hmapR : Hid (wr.ownsMap Try.prog 3 (plainElem (H := Unit) Try.prog 3) (w.heap.size + 1) Y.length (mD Y)) := by
            obtain ⟨es, cl, e1, e2⟩ := hmapZ.out
            exact ⟨es, cl, (hbel.out.block _ (by omega)).trans e1, e2⟩
          obtain ⟨hhas, hat0⟩ := mD_asg _ Y 0 0 rfl HYc.out p1
          have Hat := Lib.hid hat0
          clear hp hw1 hat0
          cases ha : Sq.asg Y p1 with
          | none =>
            rw [ha] at hhas
            simp only [Option.isSome_none] at hhas
            have HS : Hid (Sq.stab (X.take (k + 1)) Y = Sq.stab (X.take k) Y) := Lib.hid (by rw [HF.out, Sq.stab_append, Sq.stab_cons, ha]; simp)
            clear ha
            go_wp2_with (at_lookup; refine wpList_lookup_own_ok_int _ rfl _ _ 40 rfl 3 3 .i64 intKey Try.underlying40 Try.underlying3 (zeroInt _) (w.heap.size + 1) Y.length (mD Y) rfl (by exact hmapR.out.alloc _) _ _ rfl Hk.out ?_; intro c hatc hwc; clear hatc hwc)
            refine ⟨⟨k + 1, hlt, by go_num, by rw [HS.out]; omega, ?_, hbel.out.alloc hsz _⟩, by simp [intOf]; omega⟩
            rw [HS.out]
            exact hown.out.alloc _
          | some r =>
            rw [ha] at hhas
            simp only [Option.isSome_some] at hhas
            have HS : Hid (Sq.stab (X.take (k + 1)) Y = Sq.stab (X.take k) Y ++ [(p1, p2, r)]) := Lib.hid (by rw [HF.out, Sq.stab_append, Sq.stab_cons, ha]; simp)
            have Hr : Hid ((mD Y).atKey (.int .i64 (p1 : Nat)) (.lit (.int .i64 0)) = .lit (.int .i64 (r : Nat))) := Lib.hid (by rw [Hat.out, ha]; rfl)
            clear ha
            go_wp2_with (first | (at_lookup; refine wpList_lookup_own_ok_int _ rfl _ _ 40 rfl 3 3 .i64 intKey Try.underlying40 Try.underlying3 (zeroInt _) (w.heap.size + 1) Y.length (mD Y) rfl (by exact hmapR.out.alloc _) _ _ rfl Hk.out ?_; intro c hatc hwc; obtain rfl : c = (r : Int) := (by have h := hatc.symm.trans Hr.out; injection h with h; injection h); clear hatc hwc) | (at_builtin; refine wpList_app1 rfl (.tmp 62) (.tmp 69) 45 rfl Try.underlying45 info_stable rfl (by decide) w2.heap.size _ (Sq.stab (X.take k) Y).length ((Sq.stab (X.take k) Y).flatMap stCells) _ _ rfl (by simp [Value.oneCell']) rfl rfl (by simp) (by exact hown.out.alloc _) (by simp; omega) (by omega) (by omega) ?_; intro v1 w3 hown1 hb1))
            refine ⟨⟨k + 1, hlt, by go_num, by rw [HS.out]; simp; omega, ?_, hbel.out.trans (((Below.refl _ _).alloc hsz _).trans hb1)⟩, by simp [intOf]; omega⟩
            rw [HS.out, List.length_append, List.flatMap_append]
            exact hown1
        · have he : Hid (X.take k = X) := Lib.hid (by rw [List.take_of_length_le (by omega)])
          obtain rfl : k = X.length := by omega
          have HB4 : Hid (Below w.heap.size w wr) := HB3.out.trans (hbel.out.mono (by omega))
          have hsz4 : w2.heap.size ≤ wr.heap.size := hbel.out.size
          have HS0 : Hid (Sq.stab X Y = Sq.stabOf b o t) := HYd.out.symm
          rw [he.out] at hown hle
          have hSl : (Sq.stab X Y).length ≤ 2000 := by omega
          clear hmapZ HQ HXi HXc HYi HYc hbel he hd1 hd2 hle hYlen HB3 HM HYd hlt hk
          generalize Sq.stab X Y = S at *
          go_wp2_with (at_builtin; refine wpList_app1 rfl (.tmp 72) (.tmp 80) 45 rfl Try.underlying45 info_stable rfl (by decide) w2.heap.size _ S.length (S.flatMap stCells) _ _ rfl (by simp [Value.oneCell']) rfl rfl (by simp) (by exact hown.out) hsz4 (by omega) (by omega) ?_; intro v1 w3 hown1 hb1; obtain ⟨A3, d3, rfl, hd31, hd32⟩ := own_form hown1)
          have HT := Lib.hid (RdT.of_own (P := S ++ [(b.length, o.length, t.length)]) (by simpa [stCells] using hown1))
          have HB5 : Hid (Below w.heap.size w w3) := HB4.out.trans (hb1.mono (by omega))
          have hsz5 : w.heap.size ≤ w3.heap.size := HB5.out.size
          have HST := Lib.hid (rests_start (w := w3) H1.out H2.out H3.out cb co ct cb' co' ct' _ rfl)
          have HC0 : Hid (Come b o t S 0 0 0 0 []) := by have := come_start b o t; rw [← HS0.out] at this; exact this
          clear hown1 hb1 hown HB4 hsz4 hmm hsz1 hsz2 hsz3 hd31 hd32 cb co ct cb' co' ct' H2 H3
          go_wp2_with fail
          go_loopw [20, 94] (fun v i ws => ∃ (k pi pj pm : Nat) (out : List ByteArray), k ≤ S.length + 1 ∧ i = .int .i64 k ∧ Hid (Come b o t S k pi pj pm out) ∧ out.length ≤ k * 3000 ∧ Hid (Hold w ws w3.heap.size (b.drop pi)) ∧ Hid (Hold w ws (w3.heap.size + 1) (o.drop pj)) ∧ Hid (Hold w ws (w3.heap.size + 1 + 1) (t.drop pm)) ∧
              Hid (ws.heap[w3.heap.size + 1 + 1 + 1]? = some (.cells #[.int .i64 ((pi : Int) - 1), .int .i64 ((pj : Int) - 1), .int .i64 ((pm : Int) - 1)] 48 (0, 0))) ∧
              Hid (ws.ownsRow (w3.heap.size + 4) 9 1 v out.length (out.map Value.string)) ∧ Hid (Below w3.heap.size w3 ws) ∧ w3.heap.size + 4 ≤ ws.heap.size) (fun _ i _ => S.length + 1 - (intOf i).toNat)
          case atStart => exact ⟨0, 0, 0, 0, [], Nat.zero_le _, rfl, HC0, Nat.zero_le _, HST.out.1, HST.out.2.1, HST.out.2.2.1, HST.out.2.2.2.1, World.ownsRow_nil _ _ _ _, HST.out.2.2.2.2.1, Nat.le_of_eq HST.out.2.2.2.2.2.symm⟩
          clear HST HC0
          case round =>
            obtain ⟨k, pi, pj, pm, out, hk, rfl, hcome, hol, hx, hy, hz, hf, hown, hbel, hsz⟩ := hrel
            by_cases hlt : k < S.length + 1
            · have hltT : k < (S ++ [(b.length, o.length, t.length)]).length := by simpa using hlt
              obtain ⟨g, rfl, hbg, hg, cs1, cs2, cs3⟩ := (HT.out.below hbel.out (Nat.le_refl _)) k hltT
              obtain ⟨⟨p, q, r⟩, hp⟩ : ∃ x, (S ++ [(b.length, o.length, t.length)])[k] = x := ⟨_, rfl⟩
              rw [hp] at cs1 cs2 cs3
              simp only at cs1 cs2 cs3
              obtain ⟨i1, i2, i3, i4, i5, i6, hnone, hsome⟩ := come_any HS0.out hcome.out hltT hp
              have Hnone := Lib.hid hnone
              have Hsome := Lib.hid hsome
              have cf1 : wr.cell? ⟨w3.heap.size + 1 + 1 + 1, 0, none⟩ = some (.int .i64 ((pi : Int) - 1)) := by rw [cell_of_row _ _ _ _ _ _ hf.out]; rfl
              have cf2 : wr.cell? ⟨w3.heap.size + 1 + 1 + 1, 1, none⟩ = some (.int .i64 ((pj : Int) - 1)) := by rw [cell_of_row _ _ _ _ _ _ hf.out]; rfl
              have cf3 : wr.cell? ⟨w3.heap.size + 1 + 1 + 1, 2, none⟩ = some (.int .i64 ((pm : Int) - 1)) := by rw [cell_of_row _ _ _ _ _ _ hf.out]; rfl
              clear hnone hsome hp
              go_wp2_with fail
              go_cut [23, 24] from 95 to 145 (fun s23 s24 w' => s24 = .bool (Sq.chunk ((b.drop pi).take (p - pi)) ((o.drop pj).take (q - pj)) ((t.drop pm).take (r - pm))).isSome ∧
                Hid (CutMerged w w3.heap.size (w3.heap.size + 1) (w3.heap.size + 1 + 1) b o t (Sq.chunk ((b.drop pi).take (p - pi)) ((o.drop pj).take (q - pj)) ((t.drop pm).take (r - pm))) pi pj pm p q r (wr.alloc (.cells #[.int .i64 p, .int .i64 q, .int .i64 r] 48)) s23 w'))
              case first =>
                have HXW : Hid (Hold w (wr.alloc (.cells #[.int .i64 p, .int .i64 q, .int .i64 r] 48)) w3.heap.size (b.drop pi)) := hx.out.below ((Below.refl _ _).alloc (Nat.le_refl _) _) (by omega)
                have HYW : Hid (Hold w (wr.alloc (.cells #[.int .i64 p, .int .i64 q, .int .i64 r] 48)) (w3.heap.size + 1) (o.drop pj)) := hy.out.below ((Below.refl _ _).alloc (Nat.le_refl _) _) (by omega)
                have HZW : Hid (Hold w (wr.alloc (.cells #[.int .i64 p, .int .i64 q, .int .i64 r] 48)) (w3.heap.size + 1 + 1) (t.drop pm)) := hz.out.below ((Below.refl _ _).alloc (Nat.le_refl _) _) (by omega)
                have DS1 : (wr.alloc (.cells #[.int .i64 p, .int .i64 q, .int .i64 r] 48)).cell? ⟨wr.heap.size, 0, none⟩ = some (.int .i64 p) := by simp
                have DS2 : (wr.alloc (.cells #[.int .i64 p, .int .i64 q, .int .i64 r] 48)).cell? ⟨wr.heap.size, 1, none⟩ = some (.int .i64 q) := by simp
                have DS3 : (wr.alloc (.cells #[.int .i64 p, .int .i64 q, .int .i64 r] 48)).cell? ⟨wr.heap.size, 2, none⟩ = some (.int .i64 r) := by simp
                have DF1 := (World.cell?_alloc_lt wr (.cells #[.int .i64 p, .int .i64 q, .int .i64 r] 48) ⟨w3.heap.size + 1 + 1 + 1, 0, none⟩ (by simp; omega)).trans cf1
                have DF2 := (World.cell?_alloc_lt wr (.cells #[.int .i64 p, .int .i64 q, .int .i64 r] 48) ⟨w3.heap.size + 1 + 1 + 1, 1, none⟩ (by simp; omega)).trans cf2
                have DF3 := (World.cell?_alloc_lt wr (.cells #[.int .i64 p, .int .i64 q, .int .i64 r] 48) ⟨w3.heap.size + 1 + 1 + 1, 2, none⟩ (by simp; omega)).trans cf3
                have HBWW : Hid (Below w.heap.size w (wr.alloc (.cells #[.int .i64 p, .int .i64 q, .int .i64 r] 48))) := (HB5.out.trans (hbel.out.mono hsz5)).alloc (by omega) _
                have hWs : wr.heap.size < (wr.alloc (.cells #[.int .i64 p, .int .i64 q, .int .i64 r] 48)).heap.size := by simp
                clear cs1 cs2 cs3 cf1 cf2 cf3 hx hy hz hf hown hbel hcome Hnone Hsome HT HB5 HS0 H1
                generalize wr.alloc (.cells #[.int .i64 p, .int .i64 q, .int .i64 r] 48) = W at *
                obtain ⟨n1, hn1⟩ : ∃ n1, n1 = p - pi := ⟨_, rfl⟩
                obtain ⟨n2, hn2⟩ : ∃ n2, n2 = q - pj := ⟨_, rfl⟩
                obtain ⟨n3, hn3⟩ : ∃ n3, n3 = r - pm := ⟨_, rfl⟩
                have L1 : Hid (n1 ≤ (b.drop pi).length) := Lib.hid (by simp; omega)
                have L2 : Hid (n2 ≤ (o.drop pj).length) := Lib.hid (by simp; omega)
                have L3 : Hid (n3 ≤ (t.drop pm).length) := Lib.hid (by simp; omega)
                have M1 : Hid (pi + n1 = p) := Lib.hid (by omega)
                have M2 : Hid (pj + n2 = q) := Lib.hid (by omega)
                have M3 : Hid (pm + n3 = r) := Lib.hid (by omega)
                have B1 : n1 ≤ 2000 := by omega
                have B2 : n2 ≤ 2000 := by omega
                have B3 : n3 ≤ 2000 := by omega
                have wa1 : IntKind.i64.wrap ((p : Int) - ((pi : Int) - 1)) = (n1 : Int) + 1 := by rw [IntWalk.i64_in _ (by omega)]; omega
                have wa2 : IntKind.i64.wrap ((q : Int) - ((pj : Int) - 1)) = (n2 : Int) + 1 := by rw [IntWalk.i64_in _ (by omega)]; omega
                have wa3 : IntKind.i64.wrap ((r : Int) - ((pm : Int) - 1)) = (n3 : Int) + 1 := by rw [IntWalk.i64_in _ (by omega)]; omega
                have wb1 : IntKind.i64.wrap (n1 : Int) = (n1 : Int) := IntWalk.i64_in _ (by omega)
                have wb2 : IntKind.i64.wrap (n2 : Int) = (n2 : Int) := IntWalk.i64_in _ (by omega)
                have wb3 : IntKind.i64.wrap (n3 : Int) = (n3 : Int) := IntWalk.i64_in _ (by omega)
                have wc1 : (n1 : Int) + 1 - 1 = (n1 : Int) := by omega
                have wc2 : (n2 : Int) + 1 - 1 = (n2 : Int) := by omega
                have wc3 : (n3 : Int) + 1 - 1 = (n3 : Int) := by omega
                clear hn1 hn2 hn3 i1 i2 i3 i4 i5 i6
                go_region_held3 (fun w' => w'.cell? ⟨wr.heap.size, 0, none⟩ = some (.int .i64 p) ∧ w'.cell? ⟨wr.heap.size, 1, none⟩ = some (.int .i64 q) ∧ w'.cell? ⟨wr.heap.size, 2, none⟩ = some (.int .i64 r) ∧
                    w'.cell? ⟨w3.heap.size + 1 + 1 + 1, 0, none⟩ = some (.int .i64 ((pi : Int) - 1)) ∧ w'.cell? ⟨w3.heap.size + 1 + 1 + 1, 1, none⟩ = some (.int .i64 ((pj : Int) - 1)) ∧ w'.cell? ⟨w3.heap.size + 1 + 1 + 1, 2, none⟩ = some (.int .i64 ((pm : Int) - 1)))
                  (first
                    | go_keep
                    | (go_split_ands
                       refine ⟨?_, ?_, ?_, ?_, ?_, ?_⟩ <;> (refine (grown_cell gz2 (by dsimp only; omega) (by dsimp only; omega)).trans ?_; assumption))
                    | (go_split_ands
                       refine ⟨?_, ?_, ?_, ?_, ?_, ?_⟩ <;> (refine (grown_cell gy2 (by dsimp only; omega) (by dsimp only; omega)).trans ?_; assumption))
                    | (go_split_ands
                       refine ⟨?_, ?_, ?_, ?_, ?_, ?_⟩ <;> (refine (grown_cell gx2 (by dsimp only; omega) (by simp only [World.size_drew]; omega)).trans ?_; assumption)))
                  (first
                    | (go_at_call_of 25 (Value.int IntKind.i64 (n1 : Int)); refine (cut_hold w3.heap.size (b.drop pi) n1 _ w _ (by exact HXW.out) rfl L1.out (by omega)).mono ?_; rintro e wx ⟨Ax, rfl, rx, hx2, gx2, sx⟩; have tx : W.heap.size = wx.heap.size := sx.symm; have HBx : Hid (Below w.heap.size w wx) := below_grown HBWW.out.drew gx2 hsz5 (by simp only [World.size_drew]; omega))
                    | (go_at_call_of 25 (Value.int IntKind.i64 (n2 : Int)); (refine (cut_hold (w3.heap.size + 1) (o.drop pj) n2 _ w _ (Hold.but (w := W.drew) HYW.out gx2 (by omega)) rfl L2.out (by omega)).mono ?_); rintro e wy ⟨Ay, rfl, ry, hy2, gy2, sy⟩; have ty : W.heap.size = wy.heap.size := tx.trans sy.symm; have HBy : Hid (Below w.heap.size w wy) := below_grown HBx.out gy2 (by omega) (by omega))
                    | (go_at_call_of 25 (Value.int IntKind.i64 (n3 : Int)); refine (cut_hold (w3.heap.size + 1 + 1) (t.drop pm) n3 _ w _ ((Hold.but (w := W.drew) HZW.out gx2 (by omega)).but gy2 (by omega)) rfl L3.out (by omega)).mono ?_; rintro e wz ⟨Az, rfl, rz, hz2, gz2, sz⟩; have tz : W.heap.size = wz.heap.size := ty.trans sz.symm; have HBz : Hid (Below w.heap.size w wz) := below_grown HBy.out gz2 (by omega) (by omega))
                    | (go_at_call 24; refine (merged_any Ax Ay Az n1 n2 n3 ((b.drop pi).take n1) ((o.drop pj).take n2) ((t.drop pm).take n3) n1 n2 n3 _ (List.length_take_of_le L1.out).symm (List.length_take_of_le L2.out).symm (List.length_take_of_le L3.out).symm (by rw [List.length_take_of_le L1.out]; omega) (by rw [List.length_take_of_le L2.out]; omega) (by rw [List.length_take_of_le L3.out]; omega) (by exact rx.below HBz.out) (by exact ry.below HBz.out) (by exact rz.below HBz.out)).mono ?_; rintro e wm ⟨rfl, nm, rfl⟩))
                go_wp2
                go_meet
                case rel =>
                  have hn1 : n1 = p - pi := by have := M1.out; omega
                  have hn2 : n2 = q - pj := by have := M2.out; omega
                  have hn3 : n3 = r - pm := by have := M3.out; omega
                  rw [← hn1, ← hn2, ← hn3]
                  refine ⟨congrArg Value.bool (mergedV_bool _ _ _ _ _), ?_⟩
                  refine CutMerged.mk (mergedV_part ry rz (List.length_take_of_le L2.out).symm (List.length_take_of_le L3.out).symm) ?_ ?_ ?_ ?_
                  · have := (hx2.but gy2 (by omega)).but gz2 (by omega)
                    rw [drop_next b M1.out] at this; exact this
                  · have := hy2.but gz2 (by omega)
                    rw [drop_next o M2.out] at this; exact this
                  · have := hz2
                    rw [drop_next t M3.out] at this; exact this
                  · exact (But3.mk3 (w := W) (by exact ⟨gx2.os, gx2.tape, gx2.output, gx2.size, gx2.block⟩) gy2 gz2 sx sy sz).drewN nm
              case rest =>
                obtain ⟨hs24, hcm⟩ := hcut
                have hWsz : (wr.alloc (.cells #[.int .i64 p, .int .i64 q, .int .i64 r] 48)).heap.size = wr.heap.size + 1 := by simp
                have HBW : Hid (Below w3.heap.size w3 wc) := hbel.out.trans (((Below.refl _ _).alloc (by omega) _).trans (hcm.out.but.below (Nat.le_refl _) (by omega) (by omega) (by omega)))
                have hszc : wc.heap.size = wr.heap.size + 1 := hcm.out.but.size.trans hWsz
                have HOc : Hid (wc.ownsRow (w3.heap.size + 4) 9 1 u20 out.length (out.map Value.string)) := hcm.out.but.own (hown.out.alloc _) (by omega) (by omega) (by omega)
                have bs : wc.heap[wr.heap.size]? = some (.cells #[.int .i64 p, .int .i64 q, .int .i64 r] 48 (0, 0)) := (hcm.out.but.block _ (by omega) (by omega) (by omega) (by omega)).trans (heap_alloc_new wr _)
                have bf : wc.heap[w3.heap.size + 1 + 1 + 1]? = some (.cells #[.int .i64 ((pi : Int) - 1), .int .i64 ((pj : Int) - 1), .int .i64 ((pm : Int) - 1)] 48 (0, 0)) :=
                  (hcm.out.but.block _ (by omega) (by omega) (by omega) (by omega)).trans ((Below.heap_alloc wr _ _ (by omega)).trans hf.out)
                have Hszc := Lib.hid hszc
                have Hbs := Lib.hid bs
                have Hbf := Lib.hid bf
                clear cs1 cs2 cs3 cf1 cf2 cf3 hx hy hz hf hown hbel hcome HT HS0 hszc bs bf hWsz
                cases hch : Sq.chunk ((b.drop pi).take (p - pi)) ((o.drop pj).take (q - pj)) ((t.drop pm).take (r - pm)) with
                | none =>
                  rw [hch] at hs24
                  simp only [Option.isSome_none] at hs24
                  subst hs24
                  have Hmr : Hid (Sq.mrg b o t = none) := Hnone.out hch
                  clear hch
                  go_wp2
                  go_ret2
                  exact mergePost_none Hmr.out (HB5.out.trans (HBW.out.mono hsz5))
                | some ch =>
                  rw [hch] at hs24
                  simp only [Option.isSome_some] at hs24
                  subst hs24
                  obtain ⟨Ap, np, cp, rfl, hnp, hrp⟩ := hcm.out.part ch hch
                  have Hnp := Lib.hid hnp
                  have Hrp := Lib.hid (hrp.below (HB5.out.trans (HBW.out.mono hsz5)))
                  have hnl : np ≤ 2000 := by rw [hnp]; exact chunk_len hch (by simp; omega) (by simp; omega)
                  have Hso := Lib.hid (Hsome.out ch hch)
                  have hbase : w3.heap.size + 4 ≤ wc.heap.size := by have := Hszc.out; omega
                  clear hnp hrp hch Hsome Hnone
                  by_cases hpb : p < b.length
                  · obtain ⟨ba, oa, rfl, hba, hca0⟩ := H1.out.map_at hpb
                    have Hca := Lib.hid (((HB5.out.trans (HBW.out.mono hsz5)).cell (p := ⟨ba, oa + p, none⟩) hba).trans hca0)
                    have Hco := Lib.hid (Hso.out.1 hpb)
                    clear hca0
                    go_wp2_with (first
                      | (at_builtin; refine wpList_appRG rfl (.tmp 128) (.tmp 129) 22 rfl Try.underlying22 info_str rfl (w3.heap.size + 4) _ out.length (out.map Value.string) Ap np cp (ch.map Value.string) (str_one _) rfl rfl (by exact HOc.out) (by exact Hrp.out) (by simpa using Hnp.out.symm) hbase (by omega) (by omega) ?_; intro v2 w4 hown2 hb2 hg2; have bs2 := blk_keep hg2 HOc.out Hbs.out (by decide); have bf2 := blk_keep hg2 HOc.out Hbf.out (by decide); have cs2 := cell_of_row w4 wr.heap.size 0 _ _ _ bs2; have cs3 := cell_of_row w4 wr.heap.size 1 _ _ _ bs2; have cs4 := cell_of_row w4 wr.heap.size 2 _ _ _ bs2; simp only [List.getElem?_toArray, List.getElem?_cons_zero, List.getElem?_cons_succ] at cs2 cs3 cs4; have Bs2 := Lib.hid bs2; have Bf2 := Lib.hid bf2; have Hown2 := Lib.hid hown2; have Hb2 := Lib.hid hb2; have hz4 : w3.heap.size + 4 ≤ w4.heap.size := Nat.le_trans hbase hb2.size; have ca4 := (hb2.cell (p := ⟨ba, oa + p, none⟩) (by show ba < _; omega)).trans Hca.out; have hba4 : ba < w4.heap.size := (by omega); clear bs2 bf2 hg2 hown2 hb2)
                      | (at_builtin; refine wpList_app1G rfl (.tmp 136) (.tmp 142) 22 rfl Try.underlying22 info_str rfl (by decide) (w3.heap.size + 4) _ (out.length + np) (out.map Value.string ++ ch.map Value.string) _ _ rfl (by simp [Value.oneCell']) rfl rfl (by simp) (by exact Hown2.out) hz4 (by omega) (by omega) ?_; intro v3 w5 hown3 hb3 hg3; have bs5 := blk_keep hg3 (Hown2.out.alloc _) ((Below.heap_alloc w4 _ _ (lt_of_block Bs2.out)).trans Bs2.out) (by decide); have bf5 := blk_keep hg3 (Hown2.out.alloc _) ((Below.heap_alloc w4 _ _ (lt_of_block Bf2.out)).trans Bf2.out) (by decide); have cs5 := cell_of_row w5 wr.heap.size 0 _ _ _ bs5; have cs6 := cell_of_row w5 wr.heap.size 1 _ _ _ bs5; have cs7 := cell_of_row w5 wr.heap.size 2 _ _ _ bs5; have cf5 := cell_of_row w5 (w3.heap.size + 1 + 1 + 1) 0 _ _ _ bf5; have cf6 := cell_of_row w5 (w3.heap.size + 1 + 1 + 1) 1 _ _ _ bf5; have cf7 := cell_of_row w5 (w3.heap.size + 1 + 1 + 1) 2 _ _ _ bf5; simp only [List.getElem?_toArray, List.getElem?_cons_zero, List.getElem?_cons_succ] at cs5 cs6 cs7 cf5 cf6 cf7; have fz5 : ∀ i, w5.frozen? ⟨w3.heap.size + 1 + 1 + 1, i, none⟩ = false := fun i => free_row bf5 i; have Bf5 := Lib.hid bf5; have Hown3 := Lib.hid hown3; have Hb3 := Lib.hid hb3; clear bs5 bf5 hown3 hb3 hg3))
                    have hz5 : w4.heap.size ≤ w5.heap.size := Hb3.out.size
                    have chl : ch.length ≤ 2000 := by have := Hnp.out; omega
                    refine ⟨⟨k + 1, p + 1, q + 1, r + 1, out ++ ch ++ [b[p]], by omega, by go_num, Hco, by simp; have := chl; omega, ?_, ?_, ?_, ?_, ?_, ?_, ?_⟩, by simp [intOf]; omega⟩
                    · exact ((((Hold.below (hcm.out.x) Hb2.out (by omega)).below Hb3.out (by omega)).set (by dsimp only; omega) _).set (by dsimp only; omega) _).set (by dsimp only; omega) _
                    · exact ((((Hold.below (hcm.out.y) Hb2.out (by omega)).below Hb3.out (by omega)).set (by dsimp only; omega) _).set (by dsimp only; omega) _).set (by dsimp only; omega) _
                    · exact ((((Hold.below (hcm.out.z) Hb2.out (by omega)).below Hb3.out (by omega)).set (by dsimp only; omega) _).set (by dsimp only; omega) _).set (by dsimp only; omega) _
                    · have h3 := set3_blk (x := .int .i64 p) (y := .int .i64 q) (z := .int .i64 r) Bf5.out
                      refine Lib.hid ?_
                      rw [← int_next p, ← int_next q, ← int_next r]
                      exact h3
                    · have h3 := ownsRow_setCell_below (ownsRow_setCell_below (ownsRow_setCell_below Hown3.out (a := ⟨w3.heap.size + 1 + 1 + 1, 0, none⟩) (by simp) (.int .i64 p)) (a := ⟨w3.heap.size + 1 + 1 + 1, 1, none⟩) (by simp) (.int .i64 q)) (a := ⟨w3.heap.size + 1 + 1 + 1, 2, none⟩) (by simp) (.int .i64 r)
                      refine Lib.hid ?_
                      rw [show (out ++ ch ++ [b[p]]).length = out.length + np + 1 by simp; have := Hnp.out; omega, List.map_append, List.map_append]
                      exact h3
                    · exact ((((HBW.out.trans (Hb2.out.mono (by omega))).trans (Hb3.out.mono (by omega))).setCell (by dsimp only; omega) _).setCell (by dsimp only; omega) _).setCell (by dsimp only; omega) _
                    · simp only [World.size_setCell]; omega
                  · have Hco := Lib.hid (Hso.out.2 hpb)
                    go_wp2_with (at_builtin; refine wpList_appRG rfl (.tmp 128) (.tmp 129) 22 rfl Try.underlying22 info_str rfl (w3.heap.size + 4) _ out.length (out.map Value.string) Ap np cp (ch.map Value.string) (str_one _) rfl rfl (by exact HOc.out) (by exact Hrp.out) (by simpa using Hnp.out.symm) hbase (by omega) (by omega) ?_; intro v2 w4 hown2 hb2 hg2; have bs2 := blk_keep hg2 HOc.out Hbs.out (by decide); have bf2 := blk_keep hg2 HOc.out Hbf.out (by decide); have cs2 := cell_of_row w4 wr.heap.size 0 _ _ _ bs2; have cs3 := cell_of_row w4 wr.heap.size 1 _ _ _ bs2; have cs4 := cell_of_row w4 wr.heap.size 2 _ _ _ bs2; simp only [List.getElem?_toArray, List.getElem?_cons_zero, List.getElem?_cons_succ] at cs2 cs3 cs4; have Bs2 := Lib.hid bs2; have Bf2 := Lib.hid bf2; have Hown2 := Lib.hid hown2; have Hb2 := Lib.hid hb2; have hz4 : w3.heap.size + 4 ≤ w4.heap.size := Nat.le_trans hbase hb2.size; have cf2' := cell_of_row w4 (w3.heap.size + 1 + 1 + 1) 0 _ _ _ bf2; have cf3' := cell_of_row w4 (w3.heap.size + 1 + 1 + 1) 1 _ _ _ bf2; have cf4' := cell_of_row w4 (w3.heap.size + 1 + 1 + 1) 2 _ _ _ bf2; simp only [List.getElem?_toArray, List.getElem?_cons_zero, List.getElem?_cons_succ] at cf2' cf3' cf4'; have fz2 : ∀ i, w4.frozen? ⟨w3.heap.size + 1 + 1 + 1, i, none⟩ = false := fun i => free_row bf2 i; clear bs2 bf2 hg2 hown2 hb2)
                    have chl : ch.length ≤ 2000 := by have := Hnp.out; omega
                    refine ⟨⟨k + 1, p + 1, q + 1, r + 1, out ++ ch, by omega, by go_num, Hco, by simp; have := chl; omega, ?_, ?_, ?_, ?_, ?_, ?_, ?_⟩, by simp [intOf]; omega⟩
                    · exact (((Hold.below (hcm.out.x) Hb2.out (by omega)).set (by dsimp only; omega) _).set (by dsimp only; omega) _).set (by dsimp only; omega) _
                    · exact (((Hold.below (hcm.out.y) Hb2.out (by omega)).set (by dsimp only; omega) _).set (by dsimp only; omega) _).set (by dsimp only; omega) _
                    · exact (((Hold.below (hcm.out.z) Hb2.out (by omega)).set (by dsimp only; omega) _).set (by dsimp only; omega) _).set (by dsimp only; omega) _
                    · have h3 := set3_blk (x := .int .i64 p) (y := .int .i64 q) (z := .int .i64 r) Bf2.out
                      refine Lib.hid ?_
                      rw [← int_next p, ← int_next q, ← int_next r]
                      exact h3
                    · have h3 := ownsRow_setCell_below (ownsRow_setCell_below (ownsRow_setCell_below Hown2.out (a := ⟨w3.heap.size + 1 + 1 + 1, 0, none⟩) (by simp) (.int .i64 p)) (a := ⟨w3.heap.size + 1 + 1 + 1, 1, none⟩) (by simp) (.int .i64 q)) (a := ⟨w3.heap.size + 1 + 1 + 1, 2, none⟩) (by simp) (.int .i64 r)
                      refine Lib.hid ?_
                      rw [show (out ++ ch).length = out.length + np by simp; have := Hnp.out; omega, List.map_append]
                      exact h3
                    · exact (((HBW.out.trans (Hb2.out.mono (by omega))).setCell (by dsimp only; omega) _).setCell (by dsimp only; omega) _).setCell (by dsimp only; omega) _
                    · simp only [World.size_setCell]; omega
            · have hmr : Sq.mrg b o t = some out := come_end hcome.out (by omega)
              have Hmr := Lib.hid hmr; clear hmr
              go_wp2
              go_ret2
              exact mergePost_some Hmr.out (HB5.out.trans (hbel.out.mono hsz5)) (own_base hown.out (by omega))
end Go.Proofs.Ytkklpmfjbkapiaa
