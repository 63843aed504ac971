/- WALK: Write. -/
import Derived.Test.YtfhgidbmeifflaaNK
import Derived.Deep.DeepCutAuto
set_option linter.unusedSimpArgs false
set_option linter.unusedVariables false
namespace Go.Proofs.Ytfhgidbmeifflaa
open Go.RowKit Go.Maps Go.ChangeMaps Go.MapKept Go.WideShapes Go.WideMaps

theorem mkB_len (t : Tx) : (mkB t).size = t.length := by simp [mkB, ByteArray.size]
theorem key_of (t : Tx) (h : t.length ≤ 1000000) : keyOf Try.prog 9 (.string (mkB t)) = some (.string t) := by
  rw [key_str _ (by rw [mkB_len]; omega), mkB_list]
theorem longD_snoc (d : List Tx) (t : Tx) : longD (d ++ [t]) = (longD d || decide (200 < t.length)) := by simp [longD]
theorem key_inv {key : Value} {t : Tx} (h : keyOf Try.prog 9 key = some (.string t)) : key = .string (mkB t) := by
  cases key <;> simp [keyOf, Try.underlying9, mapKey] at h
  obtain ⟨_, rfl⟩ := h
  rw [mkB_of]
/-- the ranging over what is put -/
structure PutR (ps : List (Tx × Tx)) (bp r : Nat) (wr : World) (left : Lit → Bool) (cnt : Nat) (done : List Tx) : Prop where
  rg : MapRg wr Try.prog 9 bp r (putM ps) ps.length left cnt
  len : done.length + cnt ≤ ps.length
  nd : done.Nodup
  dn : ∀ t ∈ done, left (.string t) = false ∧ (getP ps t).isSome = true
  all : ∀ t, (getP ps t).isSome = true → t ∈ done ∨ left (.string t) = true
def longIn (ps : List (Tx × Tx)) (done : List Tx) : Bool := done.any fun t => longQ (t, (getP ps t).getD [])
theorem PutR.step {w1 wr : World} {ps : List (Tx × Tx)} {bp r cnt cnt' : Nat} {left : Lit → Bool} {done : List Tx} {t x : Tx}
    (h : PutR ps bp r wr left cnt done) (hlk : left (.string t) = true) (hx : getP ps t = some x) (hrg : MapRg w1 Try.prog 9 bp r (putM ps) ps.length (fun x => left x && !x.sameKey (.string t)) cnt')
    (hlt : cnt' < cnt) : PutR ps bp r w1 (fun x => left x && !x.sameKey (.string t)) cnt' (t :: done) ∧ t ∉ done := by
  have hn : t ∉ done := fun hm => by rw [(h.dn t hm).1] at hlk; cases hlk
  refine ⟨⟨hrg, by have := h.len; simp only [List.length_cons]; omega, List.nodup_cons.2 ⟨hn, h.nd⟩, ?_, ?_⟩, hn⟩
  · intro t' ht'
    rcases List.mem_cons.1 ht' with rfl | hm
    · exact ⟨by simp [same_str], by rw [hx]; rfl⟩
    · refine ⟨?_, (h.dn t' hm).2⟩
      show (left (.string t') && _) = false
      rw [(h.dn t' hm).1]; rfl
  · intro t' ht'
    by_cases e : t' = t
    · exact .inl (by simp [e])
    · rcases h.all t' ht' with h1 | h1
      · exact .inl (List.mem_cons_of_mem _ h1)
      · exact .inr (by simp [same_str, h1, e])
theorem longIn_cons (ps : List (Tx × Tx)) (done : List Tx) {t x : Tx} (hx : getP ps t = some x) : longIn ps (t :: done) = (longQ (t, x) || longIn ps done) := by simp [longIn, hx]
theorem longIn_all {ps : List (Tx × Tx)} {done : List Tx} (hn : (ps.map (·.1)).Nodup) (h : ∀ t, t ∈ done ↔ (getP ps t).isSome = true) : longIn ps done = longP ps := by
  unfold longIn longP
  rw [Bool.eq_iff_iff, List.any_eq_true, List.any_eq_true]
  constructor
  · rintro ⟨t, ht, hq⟩
    obtain ⟨x, hx⟩ := Option.isSome_iff_exists.1 ((h t).1 ht)
    rw [hx] at hq
    exact ⟨(t, x), getP_mem hx, hq⟩
  · rintro ⟨⟨t, x⟩, hm, hq⟩
    have hx := mem_getP hn hm
    exact ⟨t, (h t).2 (by rw [hx]; rfl), by rw [hx]; exact hq⟩
/-- the arguments of Write in memory -/
structure PutAt (w : World) (F : Nat → Prop) (ps : List (Tx × Tx)) (bp : Nat) (d : List Tx) (A : Option Addr) : Prop where
  m : MapAt w Try.prog 9 bp (putM ps) ps.length
  mF : ¬ F bp
  rd : Rd w A (d.map fun t => .string (mkB t))
  rF : ∀ b off, A = some ⟨b, off, none⟩ → ¬ F b
  nd : (ps.map (·.1)).Nodup
  lp : ps.length ≤ 1000
  ld : d.length ≤ 1000
  sp : ∀ q ∈ ps, q.1.length ≤ 1000000 ∧ q.2.length ≤ 1000000
  sd : ∀ t ∈ d, t.length ≤ 1000000
set_option maxHeartbeats 8000000 in
set_option maxRecDepth 100000 in
theorem write_any (p : Nat) (F : Nat → Prop) (s : Sh) (ps : List (Tx × Tx)) (bp : Nat) (d : List Tx) (A : Option Addr) (n c : Nat) (w : World) (hn : n = d.length) (hI : ShInv s) (h : ShAt w p F s) (hP : PutAt w F ps bp d A) :
    Calls Try.prog 23 #[.pointer (some ⟨p, 0, none⟩), .map (some bp), .slice A n c] w fun e w' => e = .returned (.tuple #[.int .i64 ((writeF s ps d).2.1 : Int), .int .i64 ((writeF s ps d).2.2 : Int)]) ∧ ShPost w p F (writeF s ps d).1 w' := by
  obtain ⟨bm, br, nk, hd, h⟩ := h
  have H := Lib.hid h
  have HP := Lib.hid hP
  have HI := Lib.hid hI
  have DL := hP.ld
  clear h hI hP
  go_enter Try.func23, Try.ntmps23
  go_wp2_with fail
  go_loopw [8, 24] (fun s8 s24 wr => ∃ k : Nat, k ≤ n ∧ s24 = .int .i64 (k : Int) ∧ s8 = .bool (longD (d.take k)) ∧ wr = w ∧ Hid ((d.take k).any (fun t => (getP ps t).isSome) = false)) (fun _ i _ => n - (intOf i).toNat)
  case atStart => exact ⟨0, Nat.zero_le _, rfl, rfl, rfl, Lib.hid rfl⟩
  case round =>
    obtain ⟨k, hkl, rfl, rfl, rfl, AN⟩ := hrel
    by_cases hlt : k < n
    · have hk : k < d.length := by omega
      have d1 : (k : Int) < (n : Int) := by omega
      have d2 : (0 : Int) ≤ (k : Int) := by omega
      obtain ⟨b, off, rfl, hb, c0⟩ := HP.out.rd.map_at hk
      have lk := HP.out.m.look_ok strK Try.underlying47 (z := .string .empty) (by kernel_rfl) (key_of d[k] (HP.out.sd _ (List.getElem_mem hk)))
      have lk2 : putM ps (.string d[k]) = (getP ps d[k]).map fun x => .string (mkB x) := rfl
      rw [lk2] at lk
      have sz : (mkB d[k]).size = d[k].length := mkB_len _
      have DT : Hid (d.take (k + 1) = d.take k ++ [d[k]]) := Lib.hid (List.take_succ_eq_append_getElem hk)
      generalize hdk : d[k] = t at *
      have lcast : decide ((200 : Int) < (t.length : Int)) = decide (200 < t.length) := decide_eq_decide.2 (by omega)
      have LS : longD (d.take (k + 1)) = (longD (d.take k) || decide (200 < t.length)) := by rw [DT.out]; exact longD_snoc _ _
      have AS : Hid ((d.take (k + 1)).any (fun t => (getP ps t).isSome) = ((d.take k).any (fun t => (getP ps t).isSome) || (getP ps t).isSome)) := Lib.hid (by rw [DT.out]; simp)
      cases hg : getP ps t with
      | none =>
        rw [hg] at lk AS
        have AN2 : Hid ((d.take (k + 1)).any (fun t => (getP ps t).isSome) = false) := Lib.hid (by rw [AS.out, AN.out]; rfl)
        cases hlo : longD (d.take k)
        · rw [hlo] at LS
          go_wp2_with fail
          exact ⟨⟨k + 1, by omega, by go_num, by rw [LS, ← lcast]; simp, trivial, AN2⟩, by simp [intOf]; omega⟩
        · rw [hlo] at LS
          go_wp2_with fail
          exact ⟨⟨k + 1, by omega, by go_num, by rw [LS]; simp, trivial, AN2⟩, by simp [intOf]; omega⟩
      | some x =>
        rw [hg] at lk
        have RE : writeF s ps d = (s, 0, 1) := by
          unfold writeF
          rw [if_pos]
          rw [List.any_eq_true]
          exact ⟨t, by rw [← hdk]; exact List.getElem_mem hk, by rw [hg]; rfl⟩
        go_wp2_with fail
        go_ret2
        exact ⟨by rw [RE]; rfl, by rw [RE]; exact ⟨F, ⟨bm, br, nk, hd, H.out⟩, fun g hg => .inl hg, But.refl _ _⟩⟩
    · have hkd : k = d.length := by omega
      rw [List.take_of_length_le (by omega)] at AN ⊢
      have d1 : ¬ (k : Int) < (n : Int) := by omega
      obtain ⟨w0, hr0, hrg, hg, hsz⟩ := HP.out.m.range strK Try.underlying47
      have HG := Lib.hid hg
      have B0 : Hid (Below wr.heap.size wr w0) := Lib.hid ⟨hg.os, hg.tape, hg.output, hg.size, fun k hk => hg.block k hk (by simp)⟩
      have ST : Hid (PutR ps bp wr.heap.size w0 (fun kl => (putM ps kl).isSome) ps.length []) := Lib.hid ⟨hrg, by simp, List.nodup_nil, fun t h => (by cases h), fun t h => .inr (by simpa [putM] using h)⟩
      clear hrg hg
      generalize hlod : longD d = lod at *
      have HLO := Lib.hid hlod
      obtain ⟨W0, hW0⟩ : ∃ W0, W0 = wr := ⟨_, rfl⟩
      subst hW0
      generalize hr : W0.heap.size = r at *
      go_wp2_with fail
      go_loopw [8] (fun s8 wx => ∃ (left : Lit → Bool) (cnt : Nat) (done : List Tx), s8 = .bool (lod || longIn ps done) ∧ Hid (PutR ps bp r wx left cnt done) ∧ Hid (Below r W0 wx)) (fun _ wx => wx.rangeLeft bp r)
      case atStart => exact ⟨_, _, [], by simp [longIn], ST, B0⟩
      case round =>
        clear ST hr0
        obtain ⟨left, cnt, done, rfl, hR, BW⟩ := hrel
        rcases hR.out.rg.next strK 0 with ⟨hc0, hl0, hnx⟩ | ⟨key, v, kl, w1, cnt', hkey, hlk, hM, hnx, hrg1, hlt, hg1, hs1, hen⟩
        · have hall : ∀ t, t ∈ done ↔ (getP ps t).isSome = true := fun t => ⟨fun h => (hR.out.dn t h).2, fun h => (hR.out.all t h).resolve_right (by rw [hl0]; simp)⟩
          rw [longIn_all HP.out.nd hall]
          have AA := Lib.hid hall
          have BL := BW
          clear hall hR hl0 hc0 BW
          cases hlo : (lod || longP ps)
          · have RE : Hid (writeF s ps d = ({ s with ver := s.ver + 1, clk := s.clk + 1, keys := putK (s.clk + 1) (dropK (s.clk + 1) s.keys d) ps (ps.map (·.1)), lim := s.lim + ps.length }, s.ver + 1, 0)) := Lib.hid (by
              unfold writeF
              rw [if_neg (by rw [AN.out]; simp), if_neg (by rw [HLO.out, hlo]; simp)])
            have H1 := Lib.hid (H.out.below (by rw [hr]; exact BL.out))
            obtain ⟨x0, x1, x2, x3, x4⟩ := H1.out.cells
            have f0 := free_blk H1.out.blk 0
            have f1 := free_blk H1.out.blk 1
            have j1 := HI.out.clk
            have j2 := HI.out.ver
            go_upto_region 18 with fail
            go_cut [61] (fun s61 wx => Hid (Wr W0 F r p F bm br nk { s with ver := s.ver + 1, clk := s.clk + 1, lim := s.lim + ps.length } wx))
            case first =>
             (refine wp_region_noPanic ?_; refine wp_region_held_drew (S := (fun _ => True)) (by kernel_rfl) ?_ (fun hHeld => ?_); exact trivial)
             (refine wpAnyH_take (i := 0) (oi := _) (v := ?_) rfl (by kernel_rfl) (by kernel_rfl) (by kernel_rfl) (fun _ _ _ h => h) (Or.inl ⟨?_, ?_⟩) (by assumption) ?_; rotate_left; (focus (first | rfl | (simp [Region.wanted, yielded]; done))); (focus (intro w hSw; (try dsimp only at hSw); go_simp; all_goals (with_reducible rfl))); try simp only [Act.put, List.getElem_toArray, List.getElem_cons_zero, List.getElem_cons_succ, List.setIfInBounds_toArray, List.set_cons_zero, List.set_cons_succ])
             (refine wpAnyH_take (i := 1) (oi := _) (v := ?_) rfl (by kernel_rfl) (by kernel_rfl) (by kernel_rfl) (fun _ _ _ h => h) (Or.inl ⟨?_, ?_⟩) (by assumption) ?_; rotate_left; (focus (first | rfl | (simp [Region.wanted, yielded]; done))); (focus (intro w hSw; (try dsimp only at hSw); go_simp; all_goals (with_reducible rfl))); try simp only [Act.put, List.getElem_toArray, List.getElem_cons_zero, List.getElem_cons_succ, List.setIfInBounds_toArray, List.set_cons_zero, List.set_cons_succ])
             (refine wpAnyH_take (i := 2) (oi := _) (v := ?_) rfl (by kernel_rfl) (by kernel_rfl) (by kernel_rfl) (fun _ _ _ h => h) (Or.inl ⟨?_, ?_⟩) (by assumption) ?_; rotate_left; (focus (first | rfl | (simp [Region.wanted, yielded]; done))); (focus (intro w hSw; (try dsimp only at hSw); go_simp; all_goals (with_reducible rfl))); try simp only [Act.put, List.getElem_toArray, List.getElem_cons_zero, List.getElem_cons_succ, List.setIfInBounds_toArray, List.set_cons_zero, List.set_cons_succ])
             (refine wpAnyH_take (i := 3) (oi := _) (v := ?_) rfl (by kernel_rfl) (by kernel_rfl) (by kernel_rfl) (fun _ _ _ h => h) (Or.inl ⟨?_, ?_⟩) (by assumption) ?_; rotate_left; (focus (first | rfl | (simp [Region.wanted, yielded]; done))); (focus (intro w hSw; (try dsimp only at hSw); go_simp; all_goals (with_reducible rfl))); try simp only [Act.put, List.getElem_toArray, List.getElem_cons_zero, List.getElem_cons_succ, List.setIfInBounds_toArray, List.set_cons_zero, List.set_cons_succ])
             (refine wpAnyH_take (i := 4) (oi := _) (v := ?_) rfl (by kernel_rfl) (by kernel_rfl) (by kernel_rfl) (fun _ _ _ h => h) (Or.inl ⟨?_, ?_⟩) (by assumption) ?_; rotate_left; (focus (first | rfl | (simp [Region.wanted, yielded]; done))); (focus (intro w hSw; (try dsimp only at hSw); go_simp; all_goals (with_reducible rfl))); try simp only [Act.put, List.getElem_toArray, List.getElem_cons_zero, List.getElem_cons_succ, List.setIfInBounds_toArray, List.set_cons_zero, List.set_cons_succ])
             (refine wpAnyH_take (i := 7) (oi := _) (v := ?_) rfl (by kernel_rfl) (by kernel_rfl) (by kernel_rfl) (fun _ _ _ h => h) (Or.inl ⟨?_, ?_⟩) (by assumption) ?_; rotate_left; (focus (first | rfl | (simp [Region.wanted, yielded]; done))); (focus (intro w hSw; (try dsimp only at hSw); go_simp; all_goals (with_reducible rfl))); try simp only [Act.put, List.getElem_toArray, List.getElem_cons_zero, List.getElem_cons_succ, List.setIfInBounds_toArray, List.set_cons_zero, List.set_cons_succ])
             (refine wpAnyH_take (i := 8) (oi := _) (v := ?_) rfl (by kernel_rfl) (by kernel_rfl) (by kernel_rfl) (fun _ _ _ h => h) (Or.inl ⟨?_, ?_⟩) (by assumption) ?_; rotate_left; (focus (first | rfl | (simp [Region.wanted, yielded]; done))); (focus (intro w hSw; (try dsimp only at hSw); go_simp; all_goals (with_reducible rfl))); try simp only [Act.put, List.getElem_toArray, List.getElem_cons_zero, List.getElem_cons_succ, List.setIfInBounds_toArray, List.set_cons_zero, List.set_cons_succ])
             (refine wpAnyH_take (i := 9) (oi := _) (v := ?_) rfl (by kernel_rfl) (by kernel_rfl) (by kernel_rfl) (fun _ _ _ h => h) (Or.inl ⟨?_, ?_⟩) (by assumption) ?_; rotate_left; (focus (first | rfl | (simp [Region.wanted, yielded]; done))); (focus (intro w hSw; (try dsimp only at hSw); go_simp; all_goals (with_reducible rfl))); try simp only [Act.put, List.getElem_toArray, List.getElem_cons_zero, List.getElem_cons_succ, List.setIfInBounds_toArray, List.set_cons_zero, List.set_cons_succ])
             (refine wpAnyH_ready (rs := [5, 10]) (by kernel_rfl) (by simp) ?_; refine AllReadyH.cons (o := _) rfl (fun K hK => ?_) (AllReadyH.cons (o := _) rfl (fun K hK => ?_) AllReadyH.nil))
             focus
               go_simp
               (refine hK.out _ _ trivial (fun hHeld2 => ?_); clear hK K hHeld; have hHeld := hHeld2; clear hHeld2; try simp only [Act.put, List.getElem_toArray, List.getElem_cons_zero, List.getElem_cons_succ, List.setIfInBounds_toArray, List.set_cons_zero, List.set_cons_succ])
               (refine wpAnyH_take (i := 6) (oi := _) (v := ?_) rfl (by kernel_rfl) (by kernel_rfl) (by kernel_rfl) (fun _ _ _ h => h) (Or.inl ⟨?_, ?_⟩) (by assumption) ?_; rotate_left; (focus (first | rfl | (simp [Region.wanted, yielded]; done))); (focus (intro w hSw; (try dsimp only at hSw); go_simp; all_goals (with_reducible rfl))); try simp only [Act.put, List.getElem_toArray, List.getElem_cons_zero, List.getElem_cons_succ, List.setIfInBounds_toArray, List.set_cons_zero, List.set_cons_succ])
               (refine wpAnyH_ready (rs := [10]) (by kernel_rfl) (by simp) ?_; refine AllReadyH.cons (o := _) rfl (fun K hK => ?_) AllReadyH.nil; go_simp)
               (refine hK.out _ _ trivial (fun hHeld2 => ?_); clear hK K hHeld; have hHeld := hHeld2; clear hHeld2; try simp only [Act.put, List.getElem_toArray, List.getElem_cons_zero, List.getElem_cons_succ, List.setIfInBounds_toArray, List.set_cons_zero, List.set_cons_succ])
               (refine wpAnyH_take (i := 11) (oi := _) (v := ?_) rfl (by kernel_rfl) (by kernel_rfl) (by kernel_rfl) (fun _ _ _ h => h) (Or.inl ⟨?_, ?_⟩) (by assumption) ?_; rotate_left; (focus (first | rfl | (simp [Region.wanted, yielded]; done))); (focus (intro w hSw; (try dsimp only at hSw); go_simp; all_goals (with_reducible rfl))); try simp only [Act.put, List.getElem_toArray, List.getElem_cons_zero, List.getElem_cons_succ, List.setIfInBounds_toArray, List.set_cons_zero, List.set_cons_succ])
             rotate_left
             focus
               go_simp
               (refine hK.out _ _ trivial (fun hHeld2 => ?_); clear hK K hHeld; have hHeld := hHeld2; clear hHeld2; try simp only [Act.put, List.getElem_toArray, List.getElem_cons_zero, List.getElem_cons_succ, List.setIfInBounds_toArray, List.set_cons_zero, List.set_cons_succ])
               (refine wpAnyH_take (i := 11) (oi := _) (v := ?_) rfl (by kernel_rfl) (by kernel_rfl) (by kernel_rfl) (fun _ _ _ h => h) (Or.inl ⟨?_, ?_⟩) (by assumption) ?_; rotate_left; (focus (first | rfl | (simp [Region.wanted, yielded]; done))); (focus (intro w hSw; (try dsimp only at hSw); go_simp; all_goals (with_reducible rfl))); try simp only [Act.put, List.getElem_toArray, List.getElem_cons_zero, List.getElem_cons_succ, List.setIfInBounds_toArray, List.set_cons_zero, List.set_cons_succ])
               (refine wpAnyH_ready (rs := [5]) (by kernel_rfl) (by simp) ?_; refine AllReadyH.cons (o := _) rfl (fun K hK => ?_) AllReadyH.nil; go_simp)
               (refine hK.out _ _ trivial (fun hHeld2 => ?_); clear hK K hHeld; have hHeld := hHeld2; clear hHeld2; try simp only [Act.put, List.getElem_toArray, List.getElem_cons_zero, List.getElem_cons_succ, List.setIfInBounds_toArray, List.set_cons_zero, List.set_cons_succ])
               (refine wpAnyH_take (i := 6) (oi := _) (v := ?_) rfl (by kernel_rfl) (by kernel_rfl) (by kernel_rfl) (fun _ _ _ h => h) (Or.inl ⟨?_, ?_⟩) (by assumption) ?_; rotate_left; (focus (first | rfl | (simp [Region.wanted, yielded]; done))); (focus (intro w hSw; (try dsimp only at hSw); go_simp; all_goals (with_reducible rfl))); try simp only [Act.put, List.getElem_toArray, List.getElem_cons_zero, List.getElem_cons_succ, List.setIfInBounds_toArray, List.set_cons_zero, List.set_cons_succ])
             all_goals
               (refine wpAnyH_take (i := 12) (oi := _) (v := ?_) rfl (by kernel_rfl) (by kernel_rfl) (by kernel_rfl) (fun _ _ _ h => h) (Or.inl ⟨?_, ?_⟩) (by assumption) ?_; rotate_left; (focus (first | rfl | (simp [Region.wanted, yielded]; done))); (focus (intro w hSw; (try dsimp only at hSw); go_simp; all_goals (with_reducible rfl))); try simp only [Act.put, List.getElem_toArray, List.getElem_cons_zero, List.getElem_cons_succ, List.setIfInBounds_toArray, List.set_cons_zero, List.set_cons_succ])
               (refine wpAnyH_take (i := 13) (oi := _) (v := ?_) rfl (by kernel_rfl) (by kernel_rfl) (by kernel_rfl) (fun _ _ _ h => h) (Or.inl ⟨?_, ?_⟩) (by assumption) ?_; rotate_left; (focus (first | rfl | (simp [Region.wanted, yielded]; done))); (focus (intro w hSw; (try dsimp only at hSw); go_simp; all_goals (with_reducible rfl))); try simp only [Act.put, List.getElem_toArray, List.getElem_cons_zero, List.getElem_cons_succ, List.setIfInBounds_toArray, List.set_cons_zero, List.set_cons_succ])
               (refine wpAnyH_ready (rs := [14]) (by kernel_rfl) (by simp) ?_; refine AllReadyH.cons (o := _) rfl (fun K hK => ?_) AllReadyH.nil; go_simp)
               (refine hK.out _ _ trivial (fun hHeld2 => ?_); clear hK K hHeld; have hHeld := hHeld2; clear hHeld2; try simp only [Act.put, List.getElem_toArray, List.getElem_cons_zero, List.getElem_cons_succ, List.setIfInBounds_toArray, List.set_cons_zero, List.set_cons_succ])
               (refine wpAnyH_take (i := 15) (oi := _) (v := ?_) rfl (by kernel_rfl) (by kernel_rfl) (by kernel_rfl) (fun _ _ _ h => h) (Or.inl ⟨?_, ?_⟩) (by assumption) ?_; rotate_left; (focus (first | rfl | (simp [Region.wanted, yielded]; done))); (focus (intro w hSw; (try dsimp only at hSw); go_simp; all_goals (with_reducible rfl))); try simp only [Act.put, List.getElem_toArray, List.getElem_cons_zero, List.getElem_cons_succ, List.setIfInBounds_toArray, List.set_cons_zero, List.set_cons_succ])
               (refine wpAnyH_take (i := 16) (oi := _) (v := ?_) rfl (by kernel_rfl) (by kernel_rfl) (by kernel_rfl) (fun _ _ _ h => h) (Or.inl ⟨?_, ?_⟩) (by assumption) ?_; rotate_left; (focus (first | rfl | (simp [Region.wanted, yielded]; done))); (focus (intro w hSw; (try dsimp only at hSw); go_simp; all_goals (with_reducible rfl))); try simp only [Act.put, List.getElem_toArray, List.getElem_cons_zero, List.getElem_cons_succ, List.setIfInBounds_toArray, List.set_cons_zero, List.set_cons_succ])
               (refine wpAnyH_ready (rs := [17]) (by kernel_rfl) (by simp) ?_; refine AllReadyH.cons (o := _) rfl (fun K hK => ?_) AllReadyH.nil; go_simp)
               (refine hK.out _ _ trivial (fun hHeld2 => ?_); clear hK K hHeld; have hHeld := hHeld2; clear hHeld2; try simp only [Act.put, List.getElem_toArray, List.getElem_cons_zero, List.getElem_cons_succ, List.setIfInBounds_toArray, List.set_cons_zero, List.set_cons_succ])
               (refine wpAnyH_done (by kernel_rfl) ?_ _; refine NoPanic.normal ?_)
               clear hHeld
             all_goals
               go_wp2_with fail
               go_meet
               rw [wrapN _ (by omega), wrapN _ (by omega)]
               exact Lib.hid (Wr_start H1.out (But.of_below (by rw [hr]; exact BL.out)) r ps.length)
            case rest =>
              obtain ⟨w4, hw4⟩ : ∃ w4, w4 = wc := ⟨_, rfl⟩
              rw [← hw4] at hcut ⊢
              clear hw4 wc x0 x1 x2 x3 x4 f0 f1 H1 hnx
              go_wp2_with fail
              go_loopw [79] (fun s79 wx => ∃ k : Nat, k ≤ d.length ∧ s79 = .int .i64 (k : Int) ∧ Hid (Wr W0 F r p F bm br nk { s with ver := s.ver + 1, clk := s.clk + 1, lim := s.lim + ps.length, keys := dropK (s.clk + 1) s.keys (d.take k) } wx)) (fun i _ => d.length - (intOf i).toNat)
              case atStart => exact ⟨0, Nat.zero_le _, rfl, by rw [List.take_zero, dropK_nil]; exact hcut⟩
              case round =>
                clear hcut
                obtain ⟨k, hkl, rfl, ⟨F', nk', hd', hm, hn1, hF1, hB1⟩⟩ := hrel
                by_cases hlt2 : k < d.length
                · have e1 : (k : Int) < (d.length : Int) := by omega
                  have e2 : (0 : Int) ≤ (k : Int) := by omega
                  obtain ⟨b, off, rfl, hb, c0⟩ := (HP.out.rd.but hB1 HP.out.rF).map_at hlt2
                  have szt := HP.out.sd _ (List.getElem_mem hlt2)
                  have lk := hm.look (mkB d[k]) (by rw [mkB_len]; omega)
                  rw [mkB_list] at lk
                  obtain ⟨Ah, ch, hAh, hRd⟩ := hm.head d[k]
                  have OWN := hm.own d[k]
                  rw [hAh] at lk OWN
                  dsimp only at lk OWN hAh hRd
                  have DK := dropK_step (s.clk + 1) s.keys (d.take k) d[k]
                  rw [← List.take_succ_eq_append_getElem hlt2] at DK
                  have LEN : (dropK (s.clk + 1) s.keys (d.take k) d[k]).length ≤ 10002 := by
                    have := dropK_len (s.clk + 1) s.keys (d.take k) d[k]
                    have := HI.out.len d[k]
                    omega
                  have CS := hm.cells
                  obtain ⟨y0, y1, y2, y3, y4⟩ := CS
                  have HM := Lib.hid hm
                  have RD := Lib.hid hRd
                  have OW := Lib.hid OWN
                  have HF1 := Lib.hid hF1
                  have HB1 := Lib.hid hB1
                  have HDK := Lib.hid DK
                  have HAh := Lib.hid hAh
                  clear hm hRd OWN hF1 hB1 DK hAh
                  generalize hlk : dropK (s.clk + 1) s.keys (d.take k) d[k] = l at *
                  have HLK := Lib.hid hlk
                  clear hlk
                  generalize hdk : d[k] = t at *
                  cases hgl : l.getLast? with
                  | none =>
                    have hnil : l = [] := by simpa using hgl
                    have hlz : ¬ (0 : Int) < (l.length : Int) := by rw [hnil]; simp
                    have DE : dropK (s.clk + 1) s.keys (d.take (k + 1)) = dropK (s.clk + 1) s.keys (d.take k) := by
                      rw [HDK.out, hnil]
                      funext u
                      unfold setK
                      split
                      · rename_i e; rw [e, HLK.out, hnil]; rfl
                      · rfl
                    go_wp2_with fail
                    exact ⟨⟨k + 1, by omega, by go_num, by rw [DE]; exact Lib.hid ⟨F', nk', hd', HM.out, hn1, HF1.out, HB1.out⟩⟩, by simp [intOf]; omega⟩
                  | some x =>
                    have hpos : 0 < l.length := by
                      cases l with
                      | nil => simp at hgl
                      | cons a m => simp
                    have hpz : (0 : Int) < (l.length : Int) := by omega
                    obtain ⟨bb, oo, rfl, hbb, q0, q1, q2, q3⟩ := rows_at RD.out (k := l.length - 1) (by omega)
                    have ex : l[l.length - 1]'(by omega) = x := by
                      rw [List.getLast?_eq_getElem?, List.getElem?_eq_getElem (by omega)] at hgl
                      exact Option.some.inj hgl
                    rw [ex] at q0 q1 q2 q3
                    have t1 : ((l.length : Int) - 1).toNat = l.length - 1 := by omega
                    have t2 : (l.length : Int) - 1 < (l.length : Int) := by omega
                    have t3 : (0 : Int) ≤ (l.length : Int) - 1 := by omega
                    have t4 : (1 : Int) ≤ (l.length : Int) := by omega
                    cases hgn : x.gone
                    · rw [hgn] at q2
                      go_wp2_with fail
                      have B0 : KeepB p (.cells #[.int .i64 ((s.ver : Int) + 1), .int .i64 ((s.clk : Int) + 1), .map (some bm), .map (some br), .int .i64 (s.opn : Int)] 53 (0, 0)) wr.drew := HM.out.blk
                      have C1 : ∀ w', KeepB p (.cells #[.int .i64 ((s.ver : Int) + 1), .int .i64 ((s.clk : Int) + 1), .map (some bm), .map (some br), .int .i64 (s.opn : Int)] 53 (0, 0)) w' → w'.cell? ⟨p, 1, none⟩ = some (.int .i64 ((s.clk : Int) + 1)) := fun w' h => cell_of_row w' p 1 _ _ _ h
                      have C2 : ∀ w', KeepB p (.cells #[.int .i64 ((s.ver : Int) + 1), .int .i64 ((s.clk : Int) + 1), .map (some bm), .map (some br), .int .i64 (s.opn : Int)] 53 (0, 0)) w' → w'.cell? ⟨p, 2, none⟩ = some (.map (some bm)) := fun w' h => cell_of_row w' p 2 _ _ _ h
                      (refine wp_region_noPanic ?_; refine wp_region_held_drew (S := (fun w' => KeepB p (.cells #[.int .i64 ((s.ver : Int) + 1), .int .i64 ((s.clk : Int) + 1), .map (some bm), .map (some br), .int .i64 (s.opn : Int)] 53 (0, 0)) w')) (by kernel_rfl) ?_ (fun hHeld => ?_); exact B0)
                      (refine wpAnyH_take (i := 0) (oi := _) (v := ?_) rfl (by kernel_rfl) (by kernel_rfl) (by kernel_rfl) (fun _ _ _ h => h) (Or.inl ⟨?_, ?_⟩) (by assumption) ?_; rotate_left; (focus (first | rfl | (simp [Region.wanted, yielded]; done))); (focus (intro w hSw; (try dsimp only at hSw); go_simp; all_goals (with_reducible rfl))); try simp only [Act.put, List.getElem_toArray, List.getElem_cons_zero, List.getElem_cons_succ, List.setIfInBounds_toArray, List.set_cons_zero, List.set_cons_succ])
                      (refine wpAnyH_take (i := 1) (oi := _) (v := ?_) rfl (by kernel_rfl) (by kernel_rfl) (by kernel_rfl) (fun _ _ _ h => h) (Or.inl ⟨?_, ?_⟩) (by assumption) ?_; rotate_left; (focus (first | rfl | (simp [Region.wanted, yielded]; done))); (focus (intro w hSw; (try dsimp only at hSw); go_simp; all_goals (with_reducible rfl))); try simp only [Act.put, List.getElem_toArray, List.getElem_cons_zero, List.getElem_cons_succ, List.setIfInBounds_toArray, List.set_cons_zero, List.set_cons_succ])
                      (refine wpAnyH_take (i := 2) (oi := _) (v := ?_) rfl (by kernel_rfl) (by kernel_rfl) (by kernel_rfl) (fun _ _ _ h => h) (Or.inl ⟨?_, ?_⟩) (by assumption) ?_; rotate_left; (focus (first | rfl | (simp [Region.wanted, yielded]; done))); (focus (intro w hSw; (try dsimp only at hSw); go_simp; all_goals (with_reducible rfl))); try simp only [Act.put, List.getElem_toArray, List.getElem_cons_zero, List.getElem_cons_succ, List.setIfInBounds_toArray, List.set_cons_zero, List.set_cons_succ])
                      (refine wpAnyH_take (i := 3) (oi := _) (v := ?_) rfl (by kernel_rfl) (by kernel_rfl) (by kernel_rfl) (fun _ _ _ h => h) (Or.inl ⟨?_, ?_⟩) (by assumption) ?_; rotate_left; (focus (first | rfl | (simp [Region.wanted, yielded]; done))); (focus (intro w hSw; (try dsimp only at hSw); go_simp; all_goals (with_reducible rfl))); try simp only [Act.put, List.getElem_toArray, List.getElem_cons_zero, List.getElem_cons_succ, List.setIfInBounds_toArray, List.set_cons_zero, List.set_cons_succ])
                      (refine wpAnyH_take (i := 4) (oi := _) (v := ?_) rfl (by kernel_rfl) (by kernel_rfl) (by kernel_rfl) (fun _ _ _ h => h) (Or.inl ⟨?_, ?_⟩) (by assumption) ?_; rotate_left; (focus (first | rfl | (simp [Region.wanted, yielded]; done))); (focus (intro w hSw; (try dsimp only at hSw); go_simp; all_goals (with_reducible rfl))); try simp only [Act.put, List.getElem_toArray, List.getElem_cons_zero, List.getElem_cons_succ, List.setIfInBounds_toArray, List.set_cons_zero, List.set_cons_succ])
                      (refine wpAnyH_take (i := 5) (oi := _) (v := ?_) rfl (by kernel_rfl) (by kernel_rfl) (by kernel_rfl) (fun _ _ _ h => h) (Or.inl ⟨?_, ?_⟩) (by assumption) ?_; rotate_left; (focus (first | rfl | (simp [Region.wanted, yielded]; done))); (focus (intro w hSw; (try dsimp only at hSw); go_simp; all_goals (with_reducible rfl))); try simp only [Act.put, List.getElem_toArray, List.getElem_cons_zero, List.getElem_cons_succ, List.setIfInBounds_toArray, List.set_cons_zero, List.set_cons_succ])
                      (refine wpAnyH_take (i := 6) (oi := _) (v := ?_) rfl (by kernel_rfl) (by kernel_rfl) (by kernel_rfl) (fun _ _ _ h => h) (Or.inl ⟨?_, ?_⟩) (by assumption) ?_; rotate_left; (focus (first | rfl | (simp [Region.wanted, yielded]; done))); (focus (intro w hSw; (try dsimp only at hSw); go_simp; all_goals (with_reducible rfl))); try simp only [Act.put, List.getElem_toArray, List.getElem_cons_zero, List.getElem_cons_succ, List.setIfInBounds_toArray, List.set_cons_zero, List.set_cons_succ])
                      (refine wpAnyH_take (i := 7) (oi := _) (v := ?_) rfl (by kernel_rfl) (by kernel_rfl) (by kernel_rfl) (fun _ _ _ h => h) (Or.inl ⟨?_, ?_⟩) (by assumption) ?_; rotate_left; (focus (first | rfl | (simp [Region.wanted, yielded]; done))); (focus (intro w hSw; (try dsimp only at hSw); go_simp; all_goals (with_reducible rfl))); try simp only [Act.put, List.getElem_toArray, List.getElem_cons_zero, List.getElem_cons_succ, List.setIfInBounds_toArray, List.set_cons_zero, List.set_cons_succ])
                      (refine wpAnyH_take (i := 8) (oi := _) (v := ?_) rfl (by kernel_rfl) (by kernel_rfl) (by kernel_rfl) (fun _ _ _ h => h) (Or.inl ⟨?_, ?_⟩) (by assumption) ?_; rotate_left; (focus (first | rfl | (simp [Region.wanted, yielded]; done))); (focus (intro w hSw; (try dsimp only at hSw); go_simp; all_goals (with_reducible rfl))); try simp only [Act.put, List.getElem_toArray, List.getElem_cons_zero, List.getElem_cons_succ, List.setIfInBounds_toArray, List.set_cons_zero, List.set_cons_succ])
                      (refine wpAnyH_take (i := 9) (oi := _) (v := ?_) rfl (by kernel_rfl) (by kernel_rfl) (by kernel_rfl) (fun _ _ _ h => h) (Or.inl ⟨?_, ?_⟩) (by assumption) ?_; rotate_left; (focus (first | rfl | (simp [Region.wanted, yielded]; done))); (focus (intro w hSw; (try dsimp only at hSw); go_simp; all_goals (with_reducible rfl))); try simp only [Act.put, List.getElem_toArray, List.getElem_cons_zero, List.getElem_cons_succ, List.setIfInBounds_toArray, List.set_cons_zero, List.set_cons_succ])
                      (refine wpAnyH_take (i := 10) (oi := _) (v := ?_) rfl (by kernel_rfl) (by kernel_rfl) (by kernel_rfl) (fun _ _ _ h => h) (Or.inl ⟨?_, ?_⟩) (by assumption) ?_; rotate_left; (focus (first | rfl | (simp [Region.wanted, yielded]; done))); (focus (intro w hSw; (try dsimp only at hSw); go_simp; all_goals (with_reducible rfl))); try simp only [Act.put, List.getElem_toArray, List.getElem_cons_zero, List.getElem_cons_succ, List.setIfInBounds_toArray, List.set_cons_zero, List.set_cons_succ])
                      (refine wpAnyH_ready (rs := [11]) (by kernel_rfl) (by simp) ?_; refine AllReadyH.cons (o := _) rfl (fun K hK => ?_) AllReadyH.nil; go_simp)
                      (refine hK.out _ _ ((alloc_old _ _ (lt_of_block B0)).trans B0) (fun hHeld2 => ?_); clear hK K hHeld; have hHeld := hHeld2; clear hHeld2; try simp only [Act.put, List.getElem_toArray, List.getElem_cons_zero, List.getElem_cons_succ, List.setIfInBounds_toArray, List.set_cons_zero, List.set_cons_succ])
                      (refine wpAnyH_ready (rs := [12]) (by kernel_rfl) (by simp) ?_; refine AllReadyH.cons (o := _) rfl (fun K hK => ?_) AllReadyH.nil)
                      refine step_appV rfl (.tmp 107) (.tmp 113) 60 rfl Try.underlying60 info_val rfl (by decide) _ l.length _ wr.drew _ rfl ?_ rfl rfl rfl OW.out (by omega) (by omega) ?_
                      · intro y hy
                        simp at hy
                        rcases hy with rfl | rfl | rfl | rfl <;> rfl
                      intro g' c' u1 hown hg1 hloc
                      have hpw := HM.out.lt p HM.out.fp
                      have hvb : (hd' t).getD (.slice none 0 0) = .slice (some ⟨bb, oo, none⟩) l.length ch := HAh.out
                      have obp : ∀ g, (Value.slice (some ⟨bb, oo, none⟩) l.length ch).ownBlock = some g → g ≠ p ∧ g ≠ bm ∧ g ≠ br := fun g hg => by
                        cases e : hd' t with
                        | none => rw [e] at hvb; cases hvb
                        | some v => rw [e] at hvb; have hvb : v = _ := hvb; exact HM.out.row_ne e (by rw [hvb]; exact hg)
                      have keep : ∀ k, k < wr.heap.size → some k ≠ (Value.slice (some ⟨bb, oo, none⟩) l.length ch).ownBlock → u1.heap[k]? = wr.heap[k]? := fun k hk hne => (hg1.block k (by simp; omega) hne).trans (alloc_old _ _ hk)
                      have B1 := (keep p hpw (fun e => (obp p e.symm).1 rfl)).trans B0
                      obtain ⟨u2, hup, hm2, hg2⟩ := (HM.out.km.same (keep bm (HM.out.lt bm HM.out.fm) (fun e => (obp bm e.symm).2.1 rfl))).upd strK Try.underlying50 (by have := H.out.nk; have := HI.out.lim; unfold maxLen; omega) (key_of t szt) (.slice (some ⟨g', 0, none⟩) (l.length + 1) c')
                      have M2 := Lib.hid hm2
                      have G2 := Lib.hid hg2
                      have OW1 := Lib.hid hown
                      have KP := Lib.hid keep
                      have G1 := Lib.hid hg1
                      have LC := Lib.hid hloc
                      have HV := Lib.hid hvb
                      clear hm2 hg2 hown keep hg1 hloc hvb obp
                      (refine hK.out _ _ B1 (fun hHeld2 => ?_); clear hK K hHeld; have hHeld := hHeld2; clear hHeld2; try simp only [Act.put, List.getElem_toArray, List.getElem_cons_zero, List.getElem_cons_succ, List.setIfInBounds_toArray, List.set_cons_zero, List.set_cons_succ])
                      (refine wpAnyH_ready (rs := [13]) (by kernel_rfl) (by simp) ?_; refine AllReadyH.cons (o := _) rfl (fun K hK => ?_) AllReadyH.nil; go_simp)
                      have B2 := (G2.out.block p (lt_of_block B1) (fun e => by cases e; exact HM.out.ne_p.1 rfl)).trans B1
                      (refine hK.out _ _ B2 (fun hHeld2 => ?_); clear hK K hHeld; have hHeld := hHeld2; clear hHeld2; try simp only [Act.put, List.getElem_toArray, List.getElem_cons_zero, List.getElem_cons_succ, List.setIfInBounds_toArray, List.set_cons_zero, List.set_cons_succ])
                      (refine wpAnyH_done (by kernel_rfl) ?_ _; refine NoPanic.normal ?_)
                      clear hHeld C1 C2 hup
                      have DE : dropK (s.clk + 1) s.keys (d.take (k + 1)) = setK (dropK (s.clk + 1) s.keys (d.take k)) t (l ++ [⟨s.clk + 1, [], true, false⟩]) := by
                        rw [HDK.out, dropV_live hgl hgn]
                      go_wp2_with fail
                      refine ⟨⟨k + 1, by omega, by go_num, ?_⟩, by simp [intOf]; omega⟩
                      rw [DE]
                      have hlk := HLK.out
                      subst hlk
                      refine Lib.hid (Wr_put (nk1 := nk) HM.out HF1.out (by rw [hr]; exact HF1.out) (by rw [← hr]; exact HB1.out.size) HB1.out t ⟨s.clk + 1, [], true, false⟩ g' c' _ (by rw [HV.out]) ?_ KP.out ?_ ?_ ?_ OW1.out ?_ M2.out G2.out ?_ ?_).1
                      · exact Nat.le_trans (by simp) G1.out.size
                      · exact G1.out.os
                      · exact G1.out.tape
                      · exact G1.out.output
                      · exact LC.out
                      · rw [if_pos (by
                          show (hd' t).isSome = true
                          have := HV.out
                          cases e : hd' t with
                          | none => rw [e] at this; cases this
                          | some v => rfl)]
                        exact hn1
                      · rw [if_pos (by
                          show (hd' t).isSome = true
                          have := HV.out
                          cases e : hd' t with
                          | none => rw [e] at this; cases this
                          | some v => rfl)]
                        exact HM.out.nk
                    · rw [hgn] at q2
                      have DE : dropK (s.clk + 1) s.keys (d.take (k + 1)) = dropK (s.clk + 1) s.keys (d.take k) := by
                        rw [HDK.out, dropV_gone hgl hgn]
                        funext u
                        unfold setK
                        split
                        · rename_i e; rw [e, HLK.out]
                        · rfl
                      go_wp2_with fail
                      exact ⟨⟨k + 1, by omega, by go_num, by rw [DE]; exact Lib.hid ⟨F', nk', hd', HM.out, hn1, HF1.out, HB1.out⟩⟩, by simp [intOf]; omega⟩
                · have e1 : ¬ (k : Int) < (d.length : Int) := by omega
                  rw [List.take_of_length_le (by omega)] at hm
                  have hbpF : ¬ F' bp := fun h => by
                    rcases hF1 bp h with h1 | h1
                    · exact HP.out.mF h1
                    · have := HP.out.m.lt; omega
                  have mb := HP.out.m.but hB1 HP.out.mF
                  obtain ⟨w5, hr5, hrg5, hg5, hsz5⟩ := mb.range strK Try.underlying47
                  have b5 : Below wr.heap.size wr w5 := ⟨hg5.os, hg5.tape, hg5.output, hg5.size, fun k hk => hg5.block k hk (by simp)⟩
                  have ST5 : Hid (PutR ps bp wr.heap.size w5 (fun kl => (putM ps kl).isSome) ps.length []) := Lib.hid ⟨hrg5, by simp, List.nodup_nil, fun t h => (by cases h), fun t h => .inr (by simpa [putM] using h)⟩
                  have SH5 : Hid (Wr W0 F (wr.heap.size + 1) p F' bm br (nk' + 0) { s with ver := s.ver + 1, clk := s.clk + 1, lim := s.lim + ps.length, keys := putK (s.clk + 1) (dropK (s.clk + 1) s.keys d) ps [] } w5) := Lib.hid (by
                    rw [putK_nil]
                    exact ⟨F', nk', hd', hm.below b5, Nat.le_refl _, fun g hg => .inl hg, hB1.trans (But.of_below b5)⟩)
                  have HF1 := Lib.hid hF1
                  have F5 : Hid (∀ g, F' g → g < wr.heap.size) := Lib.hid hm.lt
                  have HNK := Lib.hid (show nk' + ps.length ≤ s.lim + ps.length from Nat.add_le_add_right (Nat.le_trans hn1 H.out.nk) _)
                  have rz : r ≤ wr.heap.size := by rw [← hr]; exact hB1.size
                  clear hm hF1 hB1 mb hrg5 hg5 b5
                  generalize hr2 : wr.heap.size = r2 at *
                  go_wp2_with fail
                  go_loopw [18] (fun s18 wx => ∃ (left : Lit → Bool) (cnt : Nat) (done : List Tx), Hid (PutR ps bp r2 wx left cnt done) ∧ Hid (Wr W0 F (r2 + 1) p F' bm br (nk' + done.length) { s with ver := s.ver + 1, clk := s.clk + 1, lim := s.lim + ps.length, keys := putK (s.clk + 1) (dropK (s.clk + 1) s.keys d) ps done } wx)) (fun _ wx => wx.rangeLeft bp r2)
                  case atStart => exact ⟨_, _, [], ST5, SH5⟩
                  case round =>
                    clear ST5 SH5 hr5
                    obtain ⟨left, cnt, done, hR, ⟨F2, nk2, hd2, hm, hn2, hF2, hB2⟩⟩ := hrel
                    rcases hR.out.rg.next strK 0 with ⟨hc0, hl0, hnx⟩ | ⟨key, v, kl, w1, cnt', hkey, hlk, hM, hnx, hrg1, hlt3, hg1, hs1, hen⟩
                    · have hall : ∀ t, t ∈ done ↔ t ∈ ps.map (·.1) := fun t => ⟨fun h => (by
                        obtain ⟨x, hx⟩ := Option.isSome_iff_exists.1 (hR.out.dn t h).2
                        exact List.mem_map.2 ⟨_, getP_mem hx, rfl⟩), fun h => (by
                        obtain ⟨⟨t', x⟩, hm', rfl⟩ := List.mem_map.1 h
                        exact (hR.out.all t' (by rw [mem_getP HP.out.nd hm']; rfl)).resolve_right (by rw [hl0]; simp))⟩
                      rw [putK_same _ _ _ hall] at hm
                      obtain ⟨y0, y1, y2, y3, y4⟩ := hm.cells
                      dsimp only at y0 y1 y2 y3 y4
                      have HM := Lib.hid hm
                      have HF2 := Lib.hid hF2
                      have HB2 := Lib.hid hB2
                      clear hm hF2 hB2 hall hR hl0 hc0
                      go_wp2_with fail
                      go_ret2
                      refine ⟨by rw [RE.out]; first | rfl | simp, ?_⟩
                      rw [RE.out]
                      refine ⟨F2, ⟨bm, br, nk2, hd2, HM.out⟩, fun g hg => ?_, HB2.out⟩
                      rcases HF2.out g hg with h1 | h1
                      · rw [hr]; exact HF1.out g h1
                      · exact .inr (by rw [hr]; omega)
                    · obtain ⟨t, x, rfl, hx, rfl⟩ := putM_inv hM
                      obtain rfl := key_inv hkey
                      have bplt : bp < r2 := Nat.lt_of_lt_of_le HP.out.m.lt (by rw [hr]; exact rz)
                      have hr2F : ¬ F2 r2 := fun h => by
                        rcases hF2 r2 h with h1 | h1
                        · exact absurd (F5.out r2 h1) (Nat.lt_irrefl _)
                        · omega
                      have hbp2 : ¬ F2 bp := fun h => by
                        rcases hF2 bp h with h1 | h1
                        · exact hbpF h1
                        · omega
                      have hm1 := hm.keep (w' := w1) (by rw [hs1]; exact Nat.le_refl _) (fun g hg => hg1.block g (hm.lt g hg) (fun e => by cases e; exact hr2F hg))
                      have hmd := hm1.keep (w' := w1.drew) (Nat.le_refl _) (fun _ _ => rfl)
                      have hB1' : But F W0 w1 := ⟨hg1.os.trans hB2.os, hg1.tape.trans hB2.tape, hg1.output.trans hB2.output, Nat.le_trans hB2.size hg1.size, fun k hk hx => (hg1.block k (Nat.lt_of_lt_of_le hk hB2.size) (fun e => by cases e; rw [hr] at hk; omega)).trans (hB2.block k hk hx)⟩
                      obtain ⟨NX, hnd⟩ := hR.out.step hlk hx hrg1 hlt3
                      have ORG := hR.out.rg.left_eq
                      have PK := Lib.hid (putK_step (s.clk + 1) (dropK (s.clk + 1) s.keys d) ps hnd hx)
                      have szt : t.length ≤ 1000000 := (HP.out.sp _ (getP_mem hx)).1
                      have lk := hmd.look (mkB t) (by rw [mkB_len]; omega)
                      rw [mkB_list] at lk
                      have lkA : ∀ o, (Instr.lookup 50 (.map (some bm)) (.string (mkB t)) false).run Try.prog ((w1.alloc o).drew) = .ok ((hd2 t).getD (.slice none 0 0)) ((w1.alloc o).drew) := fun o => by
                        have := (hmd.keep (w' := (w1.alloc o).drew) (by show w1.heap.size ≤ (w1.alloc o).heap.size; simp) (fun g hg => alloc_old _ _ (hmd.lt g hg))).look (mkB t) (by rw [mkB_len]; omega)
                        rwa [mkB_list] at this
                      have OWN := hmd.own t
                      have LEN : (putK (s.clk + 1) (dropK (s.clk + 1) s.keys d) ps done t).length ≤ 10003 := by
                        have := putK_len (s.clk + 1) (dropK (s.clk + 1) s.keys d) ps done t
                        have := dropK_len (s.clk + 1) s.keys d t
                        have := HI.out.len t
                        omega
                      obtain ⟨y0, y1, y2, y3, y4⟩ := hm1.cells
                      dsimp only at y0 y1 y2 y3 y4 OWN
                      have HM := Lib.hid hm1
                      have OW := Lib.hid OWN
                      have HF2 := Lib.hid hF2
                      have HB2 := Lib.hid hB1'
                      have HNX := Lib.hid NX
                      clear hm hm1 hmd hB2 hB1' hF2 OWN NX hR hM hkey hlk hrg1 hg1 hs1
                      generalize hvv : (hd2 t).getD (.slice none 0 0) = vv at *
                      have HV := Lib.hid hvv
                      clear hvv
                      go_wp2_with fail
                      have B0 : KeepB p (.cells #[.int .i64 ((s.ver : Int) + 1), .int .i64 ((s.clk : Int) + 1), .map (some bm), .map (some br), .int .i64 (s.opn : Int)] 53 (0, 0)) w1.drew := HM.out.blk
                      have C1 : ∀ w', KeepB p (.cells #[.int .i64 ((s.ver : Int) + 1), .int .i64 ((s.clk : Int) + 1), .map (some bm), .map (some br), .int .i64 (s.opn : Int)] 53 (0, 0)) w' → w'.cell? ⟨p, 1, none⟩ = some (.int .i64 ((s.clk : Int) + 1)) := fun w' h => cell_of_row w' p 1 _ _ _ h
                      have C2 : ∀ w', KeepB p (.cells #[.int .i64 ((s.ver : Int) + 1), .int .i64 ((s.clk : Int) + 1), .map (some bm), .map (some br), .int .i64 (s.opn : Int)] 53 (0, 0)) w' → w'.cell? ⟨p, 2, none⟩ = some (.map (some bm)) := fun w' h => cell_of_row w' p 2 _ _ _ h
                      (refine wp_region_noPanic ?_; refine wp_region_held_drew (S := (fun w' => KeepB p (.cells #[.int .i64 ((s.ver : Int) + 1), .int .i64 ((s.clk : Int) + 1), .map (some bm), .map (some br), .int .i64 (s.opn : Int)] 53 (0, 0)) w')) (by kernel_rfl) ?_ (fun hHeld => ?_); exact B0)
                      (refine wpAnyH_take (i := 0) (oi := _) (v := ?_) rfl (by kernel_rfl) (by kernel_rfl) (by kernel_rfl) (fun _ _ _ h => h) (Or.inl ⟨?_, ?_⟩) (by assumption) ?_; rotate_left; (focus (first | rfl | (simp [Region.wanted, yielded]; done))); (focus (intro w hSw; (try dsimp only at hSw); go_simp; all_goals (with_reducible rfl))); try simp only [Act.put, List.getElem_toArray, List.getElem_cons_zero, List.getElem_cons_succ, List.setIfInBounds_toArray, List.set_cons_zero, List.set_cons_succ])
                      (refine wpAnyH_take (i := 1) (oi := _) (v := ?_) rfl (by kernel_rfl) (by kernel_rfl) (by kernel_rfl) (fun _ _ _ h => h) (Or.inl ⟨?_, ?_⟩) (by assumption) ?_; rotate_left; (focus (first | rfl | (simp [Region.wanted, yielded]; done))); (focus (intro w hSw; (try dsimp only at hSw); go_simp; all_goals (with_reducible rfl))); try simp only [Act.put, List.getElem_toArray, List.getElem_cons_zero, List.getElem_cons_succ, List.setIfInBounds_toArray, List.set_cons_zero, List.set_cons_succ])
                      (refine wpAnyH_take (i := 2) (oi := _) (v := ?_) rfl (by kernel_rfl) (by kernel_rfl) (by kernel_rfl) (fun _ _ _ h => h) (Or.inl ⟨?_, ?_⟩) (by assumption) ?_; rotate_left; (focus (first | rfl | (simp [Region.wanted, yielded]; done))); (focus (intro w hSw; (try dsimp only at hSw); go_simp; all_goals (with_reducible rfl))); try simp only [Act.put, List.getElem_toArray, List.getElem_cons_zero, List.getElem_cons_succ, List.setIfInBounds_toArray, List.set_cons_zero, List.set_cons_succ])
                      (refine wpAnyH_take (i := 3) (oi := _) (v := ?_) rfl (by kernel_rfl) (by kernel_rfl) (by kernel_rfl) (fun _ _ _ h => h) (Or.inl ⟨?_, ?_⟩) (by assumption) ?_; rotate_left; (focus (first | rfl | (simp [Region.wanted, yielded]; done))); (focus (intro w hSw; (try dsimp only at hSw); go_simp; all_goals (with_reducible rfl))); try simp only [Act.put, List.getElem_toArray, List.getElem_cons_zero, List.getElem_cons_succ, List.setIfInBounds_toArray, List.set_cons_zero, List.set_cons_succ])
                      (refine wpAnyH_take (i := 4) (oi := _) (v := ?_) rfl (by kernel_rfl) (by kernel_rfl) (by kernel_rfl) (fun _ _ _ h => h) (Or.inl ⟨?_, ?_⟩) (by assumption) ?_; rotate_left; (focus (first | rfl | (simp [Region.wanted, yielded]; done))); (focus (intro w hSw; (try dsimp only at hSw); go_simp; all_goals (with_reducible rfl))); try simp only [Act.put, List.getElem_toArray, List.getElem_cons_zero, List.getElem_cons_succ, List.setIfInBounds_toArray, List.set_cons_zero, List.set_cons_succ])
                      (refine wpAnyH_take (i := 5) (oi := _) (v := ?_) rfl (by kernel_rfl) (by kernel_rfl) (by kernel_rfl) (fun _ _ _ h => h) (Or.inl ⟨?_, ?_⟩) (by assumption) ?_; rotate_left; (focus (first | rfl | (simp [Region.wanted, yielded]; done))); (focus (intro w hSw; (try dsimp only at hSw); go_simp; all_goals (with_reducible rfl))); try simp only [Act.put, List.getElem_toArray, List.getElem_cons_zero, List.getElem_cons_succ, List.setIfInBounds_toArray, List.set_cons_zero, List.set_cons_succ])
                      (refine wpAnyH_take (i := 6) (oi := _) (v := ?_) rfl (by kernel_rfl) (by kernel_rfl) (by kernel_rfl) (fun _ _ _ h => h) (Or.inl ⟨?_, ?_⟩) (by assumption) ?_; rotate_left; (focus (first | rfl | (simp [Region.wanted, yielded]; done))); (focus (intro w hSw; (try dsimp only at hSw); go_simp; all_goals (with_reducible rfl))); try simp only [Act.put, List.getElem_toArray, List.getElem_cons_zero, List.getElem_cons_succ, List.setIfInBounds_toArray, List.set_cons_zero, List.set_cons_succ])
                      (refine wpAnyH_take (i := 7) (oi := _) (v := ?_) rfl (by kernel_rfl) (by kernel_rfl) (by kernel_rfl) (fun _ _ _ h => h) (Or.inl ⟨?_, ?_⟩) (by assumption) ?_; rotate_left; (focus (first | rfl | (simp [Region.wanted, yielded]; done))); (focus (intro w hSw; (try dsimp only at hSw); go_simp; all_goals (with_reducible rfl))); try simp only [Act.put, List.getElem_toArray, List.getElem_cons_zero, List.getElem_cons_succ, List.setIfInBounds_toArray, List.set_cons_zero, List.set_cons_succ])
                      (refine wpAnyH_take (i := 8) (oi := _) (v := ?_) rfl (by kernel_rfl) (by kernel_rfl) (by kernel_rfl) (fun _ _ _ h => h) (Or.inl ⟨?_, ?_⟩) (by assumption) ?_; rotate_left; (focus (first | rfl | (simp [Region.wanted, yielded]; done))); (focus (intro w hSw; (try dsimp only at hSw); go_simp; all_goals (with_reducible rfl))); try simp only [Act.put, List.getElem_toArray, List.getElem_cons_zero, List.getElem_cons_succ, List.setIfInBounds_toArray, List.set_cons_zero, List.set_cons_succ])
                      (refine wpAnyH_take (i := 9) (oi := _) (v := ?_) rfl (by kernel_rfl) (by kernel_rfl) (by kernel_rfl) (fun _ _ _ h => h) (Or.inl ⟨?_, ?_⟩) (by assumption) ?_; rotate_left; (focus (first | rfl | (simp [Region.wanted, yielded]; done))); (focus (intro w hSw; (try dsimp only at hSw); go_simp; all_goals (with_reducible rfl))); try simp only [Act.put, List.getElem_toArray, List.getElem_cons_zero, List.getElem_cons_succ, List.setIfInBounds_toArray, List.set_cons_zero, List.set_cons_succ])
                      (refine wpAnyH_take (i := 11) (oi := _) (v := ?_) rfl (by kernel_rfl) (by kernel_rfl) (by kernel_rfl) (fun _ _ _ h => h) (Or.inl ⟨?_, ?_⟩) (by assumption) ?_; rotate_left; (focus (first | rfl | (simp [Region.wanted, yielded]; done))); (focus (intro w hSw; (try dsimp only at hSw); go_simp; all_goals (with_reducible rfl))); try simp only [Act.put, List.getElem_toArray, List.getElem_cons_zero, List.getElem_cons_succ, List.setIfInBounds_toArray, List.set_cons_zero, List.set_cons_succ])
                      (refine wpAnyH_take (i := 12) (oi := _) (v := ?_) rfl (by kernel_rfl) (by kernel_rfl) (by kernel_rfl) (fun _ _ _ h => h) (Or.inl ⟨?_, ?_⟩) (by assumption) ?_; rotate_left; (focus (first | rfl | (simp [Region.wanted, yielded]; done))); (focus (intro w hSw; (try dsimp only at hSw); go_simp; all_goals (with_reducible rfl))); try simp only [Act.put, List.getElem_toArray, List.getElem_cons_zero, List.getElem_cons_succ, List.setIfInBounds_toArray, List.set_cons_zero, List.set_cons_succ])
                      (refine wpAnyH_take (i := 13) (oi := _) (v := ?_) rfl (by kernel_rfl) (by kernel_rfl) (by kernel_rfl) (fun _ _ _ h => h) (Or.inl ⟨?_, ?_⟩) (by assumption) ?_; rotate_left; (focus (first | rfl | (simp [Region.wanted, yielded]; done))); (focus (intro w hSw; (try dsimp only at hSw); go_simp; all_goals (with_reducible rfl))); try simp only [Act.put, List.getElem_toArray, List.getElem_cons_zero, List.getElem_cons_succ, List.setIfInBounds_toArray, List.set_cons_zero, List.set_cons_succ])
                      (refine wpAnyH_take (i := 14) (oi := _) (v := ?_) rfl (by kernel_rfl) (by kernel_rfl) (by kernel_rfl) (fun _ _ _ h => h) (Or.inl ⟨?_, ?_⟩) (by assumption) ?_; rotate_left; (focus (first | rfl | (simp [Region.wanted, yielded]; done))); (focus (intro w hSw; (try dsimp only at hSw); go_simp; all_goals (with_reducible rfl))); try simp only [Act.put, List.getElem_toArray, List.getElem_cons_zero, List.getElem_cons_succ, List.setIfInBounds_toArray, List.set_cons_zero, List.set_cons_succ])
                      (refine wpAnyH_take (i := 15) (oi := _) (v := ?_) rfl (by kernel_rfl) (by kernel_rfl) (by kernel_rfl) (fun _ _ _ h => h) (Or.inl ⟨?_, ?_⟩) (by assumption) ?_; rotate_left; (focus (first | rfl | (simp [Region.wanted, yielded]; done))); (focus (intro w hSw; (try dsimp only at hSw); go_simp; all_goals (with_reducible rfl))); try simp only [Act.put, List.getElem_toArray, List.getElem_cons_zero, List.getElem_cons_succ, List.setIfInBounds_toArray, List.set_cons_zero, List.set_cons_succ])
                      (refine wpAnyH_take (i := 16) (oi := _) (v := ?_) rfl (by kernel_rfl) (by kernel_rfl) (by kernel_rfl) (fun _ _ _ h => h) (Or.inl ⟨?_, ?_⟩) (by assumption) ?_; rotate_left; (focus (first | rfl | (simp [Region.wanted, yielded]; done))); (focus (intro w hSw; (try dsimp only at hSw); go_simp; all_goals (with_reducible rfl))); try simp only [Act.put, List.getElem_toArray, List.getElem_cons_zero, List.getElem_cons_succ, List.setIfInBounds_toArray, List.set_cons_zero, List.set_cons_succ])
                      (refine wpAnyH_ready (rs := [10, 17]) (by kernel_rfl) (by simp) ?_; refine AllReadyH.cons (o := _) rfl (fun K hK => ?_) (AllReadyH.cons (o := _) rfl (fun K hK => ?_) AllReadyH.nil))
                      focus
                        go_simp
                        (refine hK.out _ _ B0 (fun hHeld2 => ?_); clear hK K hHeld; have hHeld := hHeld2; clear hHeld2; try simp only [Act.put, List.getElem_toArray, List.getElem_cons_zero, List.getElem_cons_succ, List.setIfInBounds_toArray, List.set_cons_zero, List.set_cons_succ])
                        (refine wpAnyH_ready (rs := [17]) (by kernel_rfl) (by simp) ?_; refine AllReadyH.cons (o := _) rfl (fun K hK => ?_) AllReadyH.nil; go_simp)
                        (refine hK.out _ _ ((alloc_old _ _ (lt_of_block B0)).trans B0) (fun hHeld2 => ?_); clear hK K hHeld; have hHeld := hHeld2; clear hHeld2; try simp only [Act.put, List.getElem_toArray, List.getElem_cons_zero, List.getElem_cons_succ, List.setIfInBounds_toArray, List.set_cons_zero, List.set_cons_succ])
                      rotate_left
                      focus
                        go_simp
                        (refine hK.out _ _ ((alloc_old _ _ (lt_of_block B0)).trans B0) (fun hHeld2 => ?_); clear hK K hHeld; have hHeld := hHeld2; clear hHeld2; try simp only [Act.put, List.getElem_toArray, List.getElem_cons_zero, List.getElem_cons_succ, List.setIfInBounds_toArray, List.set_cons_zero, List.set_cons_succ])
                        (refine wpAnyH_ready (rs := [10]) (by kernel_rfl) (by simp) ?_; refine AllReadyH.cons (o := _) rfl (fun K hK => ?_) AllReadyH.nil; go_simp)
                        (refine hK.out _ _ ((alloc_old _ _ (lt_of_block B0)).trans B0) (fun hHeld2 => ?_); clear hK K hHeld; have hHeld := hHeld2; clear hHeld2; try simp only [Act.put, List.getElem_toArray, List.getElem_cons_zero, List.getElem_cons_succ, List.setIfInBounds_toArray, List.set_cons_zero, List.set_cons_succ])
                      all_goals
                        (refine wpAnyH_ready (rs := [18]) (by kernel_rfl) (by simp) ?_; refine AllReadyH.cons (o := _) rfl (fun K hK => ?_) AllReadyH.nil)
                        refine step_appV rfl (.tmp 133) (.tmp 140) 60 rfl Try.underlying60 info_val rfl (by decide) _ (putK (s.clk + 1) (dropK (s.clk + 1) s.keys d) ps done t).length _ w1.drew _ rfl ?_ rfl rfl rfl OW.out (by omega) (by omega) ?_
                        · intro y hy
                          simp at hy
                          rcases hy with rfl | rfl | rfl | rfl <;> rfl
                        intro g' c' u1 hown hg1 hloc
                        have hpw := HM.out.lt p HM.out.fp
                        have obp : ∀ g, vv.ownBlock = some g → g ≠ p ∧ g ≠ bm ∧ g ≠ br := fun g hg => by
                          cases e : hd2 t with
                          | none => have := HV.out; rw [e] at this; rw [← this] at hg; cases hg
                          | some v => have := HV.out; rw [e] at this; exact HM.out.row_ne e (by rw [← this] at hg; exact hg)
                        have keep : ∀ k, k < w1.heap.size → some k ≠ vv.ownBlock → u1.heap[k]? = w1.heap[k]? := fun k hk hne => (hg1.block k (by simp; omega) hne).trans (alloc_old _ _ hk)
                        have B1 := (keep p hpw (fun e => (obp p e.symm).1 rfl)).trans B0
                        obtain ⟨u2, hup, hm2, hg2⟩ := (HM.out.km.same (keep bm (HM.out.lt bm HM.out.fm) (fun e => (obp bm e.symm).2.1 rfl))).upd strK Try.underlying50 (by have := HNX.out.len; have := HNK.out; have := HI.out.lim; have := HP.out.lp; simp only [List.length_cons] at *; unfold maxLen; omega) (key_of t szt) (.slice (some ⟨g', 0, none⟩) ((putK (s.clk + 1) (dropK (s.clk + 1) s.keys d) ps done t).length + 1) c')
                        have M2 := Lib.hid hm2
                        have G2 := Lib.hid hg2
                        have OW1 := Lib.hid hown
                        have KP := Lib.hid keep
                        have G1 := Lib.hid hg1
                        have LC := Lib.hid hloc
                        clear hm2 hg2 hown keep hg1 hloc obp
                        (refine hK.out _ _ B1 (fun hHeld2 => ?_); clear hK K hHeld; have hHeld := hHeld2; clear hHeld2; try simp only [Act.put, List.getElem_toArray, List.getElem_cons_zero, List.getElem_cons_succ, List.setIfInBounds_toArray, List.set_cons_zero, List.set_cons_succ])
                        (refine wpAnyH_ready (rs := [19]) (by kernel_rfl) (by simp) ?_; refine AllReadyH.cons (o := _) rfl (fun K hK => ?_) AllReadyH.nil; go_simp)
                        have B2 := (G2.out.block p (lt_of_block B1) (fun e => by cases e; exact HM.out.ne_p.1 rfl)).trans B1
                        (refine hK.out _ _ B2 (fun hHeld2 => ?_); clear hK K hHeld; have hHeld := hHeld2; clear hHeld2; try simp only [Act.put, List.getElem_toArray, List.getElem_cons_zero, List.getElem_cons_succ, List.setIfInBounds_toArray, List.set_cons_zero, List.set_cons_succ])
                        (refine wpAnyH_done (by kernel_rfl) ?_ _; refine NoPanic.normal ?_)
                        clear hHeld C1 C2 hup
                        go_wp2_with fail
                        have WP := Wr_put (w := W0) (X := F) (B := r2 + 1) (F := F') (nk1 := nk' + (t :: done).length) HM.out HF2.out (fun g hg => by
                          rcases HF2.out g hg with h1 | h1
                          · rw [hr]; exact HF1.out g h1
                          · exact .inr (by rw [hr]; omega)) HNX.out.rg.lt HB2.out t ⟨s.clk + 1, x, false, false⟩ g' c' _ (by rw [HV.out]) (Nat.le_trans (by simp) G1.out.size) KP.out G1.out.os G1.out.tape G1.out.output OW1.out LC.out M2.out G2.out ?_ ?_
                        · have NX2 : PutR ps bp r2 u2 (fun y => left y && !y.sameKey (.string t)) cnt' (t :: done) := ⟨HNX.out.rg.same (WP.2 bp HNX.out.rg.at_.lt hbp2) (WP.2 r2 HNX.out.rg.lt hr2F), HNX.out.len, HNX.out.nd, HNX.out.dn, HNX.out.all⟩
                          have W1 := WP.1
                          refine ⟨⟨_, cnt', t :: done, Lib.hid NX2, ?_⟩, by rw [NX2.rg.left_eq, ORG]; exact hlt3⟩
                          rw [PK.out]
                          exact Lib.hid W1
                        · have := HNX.out.len
                          simp only [List.length_cons] at this ⊢
                          split <;> omega
                        · have q1 := HNX.out.len
                          have q2 := HNK.out
                          simp only [List.length_cons] at q1
                          dsimp only
                          split <;> omega
          · have RE : writeF s ps d = (s, 0, 2) := by
              unfold writeF
              rw [if_neg (by rw [AN.out]; simp), if_pos (by rw [HLO.out]; exact hlo)]
            go_wp2_with fail
            go_ret2
            exact ⟨by rw [RE]; rfl, by rw [RE]; exact ⟨F, ⟨bm, br, nk, hd, H.out.below (by rw [hr]; exact BL.out)⟩, fun g hg => .inl hg, But.of_below (by rw [hr]; exact BL.out)⟩⟩
        · obtain ⟨t, x, rfl, hx, rfl⟩ := putM_inv hM
          obtain rfl := key_inv hkey
          have hb1 : Hid (Below r W0 w1) := Lib.hid (BW.out.trans ⟨hg1.os, hg1.tape, hg1.output, hg1.size, fun k hk => hg1.block k (by have := BW.out.size; omega) (fun e => by cases e; omega)⟩)
          have NX := Lib.hid (hR.out.step hlk hx hrg1 hlt).1
          have ORG := hR.out.rg.left_eq
          have LC := longIn_cons ps done hx
          have s1 := mkB_len t
          have s2 := mkB_len x
          have q1 : longQ (t, x) = (decide (200 < t.length) || decide (20000 < x.length)) := rfl
          rw [q1] at LC
          clear hM hrg1 hg1 hkey hR hlk q1 BW
          generalize longIn ps done = li at *
          have hnl := NX.out.rg.left_eq
          by_cases e1 : 200 < t.length
          · have e1' : (200 : Int) < (t.length : Int) := by omega
            cases hlo : (lod || li)
            · go_wp2_with fail
              exact ⟨⟨_, _, t :: done, by rw [LC]; simp [e1], NX, hb1⟩, by rw [hnl, ORG]; exact hlt⟩
            · go_wp2_with fail
              exact ⟨⟨_, _, t :: done, by rw [LC]; simp [e1], NX, hb1⟩, by rw [hnl, ORG]; exact hlt⟩
          · have e1' : ¬ (200 : Int) < (t.length : Int) := by omega
            have e2 : decide ((20000 : Int) < (x.length : Int)) = decide (20000 < x.length) := decide_eq_decide.2 (by omega)
            have e3 : decide (200 < t.length) = false := by simp; omega
            rw [e3, Bool.false_or] at LC
            cases hlo : (lod || li)
            · obtain ⟨rfl, rfl⟩ := Bool.or_eq_false_iff.1 hlo
              rw [Bool.or_false] at LC
              go_wp2_with fail
              exact ⟨⟨_, _, t :: done, by rw [LC, ← e2]; simp, NX, hb1⟩, by rw [hnl, ORG]; exact hlt⟩
            · go_wp2_with fail
              exact ⟨⟨_, _, t :: done, by rw [LC, Bool.or_left_comm, hlo, Bool.or_true], NX, hb1⟩, by rw [hnl, ORG]; exact hlt⟩
end Go.Proofs.Ytfhgidbmeifflaa
