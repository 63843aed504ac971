/- WALK: Held. -/
import Derived.Test.YtfhgidbmeifflaaND
set_option linter.unusedSimpArgs false
set_option linter.unusedVariables false
namespace Go.Proofs.Ytfhgidbmeifflaa
open Go.RowKit Go.Maps Go.ChangeMaps Go.MapKept Go.WideShapes Go.WideMaps

theorem held_nil (w : World) : Calls Try.prog 15 #[.pointer none] w fun e w' => e = .returned (.int .i64 0) ∧ w' = w := by
  go_enter Try.func15, Try.ntmps15
  go_wp2_with fail
  go_ret
  exact ⟨rfl, rfl⟩
/-- what is left of the histories when some are told -/
structure HeldR (w : World) (hd : List UInt8 → Option Value) (ks : List UInt8 → List Sn.Val) (bm r nk : Nat) (wr : World) (left : Lit → Bool) (cnt n : Nat) (done : List (List UInt8)) : Prop where
  rg : MapRg wr Try.prog 9 bm r (keyM hd) nk left cnt
  bel : Below r w wr
  nd : done.Nodup
  dn : ∀ t ∈ done, left (.string t) = false
  all : ∀ t, (hd t).isSome = true → t ∈ done ∨ left (.string t) = true
  len : done.length + cnt ≤ nk
  sum : n = Sn.sumK ks done
  le : n ≤ done.length * 10001
def HeldPost (w : World) (f : List UInt8 → List Sn.Val) (e : Ending) (w' : World) : Prop := ∃ n : Nat, e = .returned (.int .i64 (n : Int)) ∧ Sn.HeldIs f n ∧ n ≤ 1001000000 ∧ Below w.heap.size w w'
theorem keyM_inv {hd : List UInt8 → Option Value} {kl : Lit} {v : Value} (h : keyM hd kl = some v) : ∃ t, kl = .string t ∧ hd t = some v := by
  cases kl with
  | string t => exact ⟨t, rfl, h⟩
  | _ => cases h
theorem same_str {a b : List UInt8} : (Lit.string a).sameKey (.string b) = decide (a = b) := by
  rw [Bool.eq_iff_iff]; simp [Lit.sameKey]
theorem cnt_le (l : List Sn.Val) : Sn.cnt l ≤ l.length := List.length_filter_le _ _
theorem cnt_take {l : List Sn.Val} {k : Nat} (h : k < l.length) : Sn.cnt (l.take (k + 1)) = Sn.cnt (l.take k) + (if l[k].gone then 0 else 1) := by
  rw [List.take_succ_eq_append_getElem h]
  unfold Sn.cnt
  rw [List.filter_append, List.length_append]
  cases hg : l[k].gone <;> simp [hg]
theorem HeldR.step {w w1 wx wr : World} {hd : List UInt8 → Option Value} {ks : List UInt8 → List Sn.Val} {bm r nk cnt cnt' n : Nat} {left : Lit → Bool} {done : List (List UInt8)} {t : List UInt8}
    (h : HeldR w hd ks bm r nk wr left cnt n done) (hr : w.heap.size = r) (hlk : left (.string t) = true) (hrg : MapRg w1 Try.prog 9 bm r (keyM hd) nk (fun x => left x && !x.sameKey (.string t)) cnt') (hlt : cnt' < cnt)
    (hg : wr.grownBy w1 (some r)) (hb : Below w1.heap.size w1 wx) (hl : (ks t).length ≤ 10001) : HeldR w hd ks bm r nk wx (fun x => left x && !x.sameKey (.string t)) cnt' (n + Sn.cnt (ks t)) (t :: done) := by
  have hz : r ≤ w1.heap.size := by have := hrg.lt; omega
  refine ⟨hrg.same (hb.block _ hrg.at_.lt) (hb.block _ hrg.lt), h.bel.trans (Below.trans ⟨hg.os, hg.tape, hg.output, hg.size, fun k hk => hg.block k (by have := h.bel.size; omega) (fun e => by cases e; omega)⟩ (hb.mono hz)), List.nodup_cons.2 ⟨fun hm => ?_, h.nd⟩, ?_, ?_, ?_, ?_, ?_⟩
  · rw [h.dn t hm] at hlk; cases hlk
  · intro t' ht'
    rcases List.mem_cons.1 ht' with rfl | hm
    · simp [same_str]
    · show (left (.string t') && _) = false
      rw [h.dn t' hm]; rfl
  · intro t' ht'
    by_cases e : t' = t
    · exact .inl (by simp [e])
    · rcases h.all t' ht' with h1 | h1
      · exact .inl (List.mem_cons_of_mem _ h1)
      · exact .inr (by simp [same_str, h1, e])
  · have := h.len; simp only [List.length_cons]; omega
  · rw [h.sum]; unfold Sn.sumK; rw [List.map_cons, List.sum_cons]; omega
  · have := h.le; have := cnt_le (ks t); simp only [List.length_cons]; omega
set_option maxHeartbeats 8000000 in
set_option maxRecDepth 100000 in
theorem held_any (p : Nat) (F : Nat → Prop) (s : Sh) (w : World) (hI : ShInv s) (h : ShAt w p F s) :
    Calls Try.prog 15 #[.pointer (some ⟨p, 0, none⟩)] w (HeldPost w s.keys) := by
  obtain ⟨bm, br, nk, hd, h⟩ := h
  have H := Lib.hid h
  have HI := Lib.hid hI
  obtain ⟨x0, x1, x2, x3, x4⟩ := h.cells
  obtain ⟨w0, hr0, hrg, hg, hsz⟩ := h.km.range strK Try.underlying50
  have HG := Lib.hid hg
  have B0 : Hid (Below w.heap.size w w0) := Lib.hid ⟨hg.os, hg.tape, hg.output, hg.size, fun k hk => hg.block k hk (by simp)⟩
  have RG := Lib.hid hrg
  generalize hr : w.heap.size = r at *
  clear h hI hrg hg
  go_enter Try.func15, Try.ntmps15
  go_wp2_with fail
  have ST : Hid (HeldR w hd s.keys bm r nk w0 (fun kl => (keyM hd kl).isSome) nk 0 []) := Lib.hid ⟨RG.out, B0.out, List.nodup_nil, fun t h => (by cases h), fun t h => .inr h, by simp, rfl, by simp⟩
  have NK := Lib.hid (Nat.le_trans H.out.nk HI.out.lim)
  go_loopw [3] (fun s3 wr => ∃ (left : Lit → Bool) (cnt n : Nat) (done : List (List UInt8)), s3 = .int .i64 (n : Int) ∧ Hid (HeldR w hd s.keys bm r nk wr left cnt n done)) (fun _ wr => wr.rangeLeft bm r)
  case atStart => exact ⟨_, _, 0, [], rfl, ST⟩
  case round =>
    clear ST RG B0 hr0 x0 x1 x2 x3 x4
    obtain ⟨left, cnt, n, done, rfl, hR⟩ := hrel
    have hcl : done.length ≤ 100000 := by have := hR.out.len; have := NK.out; omega
    have hnl : n ≤ 1001000000 := by have := hR.out.le; omega
    rcases hR.out.rg.next strK 0 with ⟨hc0, hl0, hnx⟩ | ⟨key, v, kl, w1, cnt', hkey, hlk, hM, hnx, hrg1, hlt, hg1, hs1, hen⟩
    · go_wp2_with fail
      go_ret
      refine ⟨n, rfl, ⟨done, hR.out.nd, fun t ht => ?_, hR.out.sum⟩, hnl, by rw [hr]; exact hR.out.bel⟩
      have ht : (hd t).isSome = true := by
        cases e : hd t with
        | none => exact absurd (H.out.none_ t e) ht
        | some v => rfl
      rcases hR.out.all t ht with h1 | h1
      · exact h1
      · rw [hl0] at h1; cases h1
    · obtain ⟨t, rfl, hv⟩ := keyM_inv hM
      obtain ⟨A, c, hA, hRd⟩ := H.out.head t
      rw [hv] at hA
      have hA : v = _ := hA
      subst hA
      have hb1 : Below r w w1 := hR.out.bel.trans ⟨hg1.os, hg1.tape, hg1.output, hg1.size, fun k hk => hg1.block k (by have := hR.out.bel.size; omega) (fun e => by cases e; omega)⟩
      have RD := Lib.hid (hRd.below (by rw [hr]; exact hb1))
      have LEN := HI.out.len t
      have NX := Lib.hid (fun (wx : World) (hb : Below w1.heap.size w1 wx) => hR.out.step hr hlk hrg1 hlt hg1 hb LEN)
      have ORG := hR.out.rg.left_eq
      have hcl2 := hR.out.le
      clear hv hM hRd hb1 hrg1 hg1 hkey hR hlk
      generalize s.keys t = l at *
      go_wp2_with fail
      go_loopw [3, 21] (fun s3 s21 wx => ∃ k : Nat, k ≤ l.length ∧ s21 = .int .i64 (k : Int) ∧ s3 = .int .i64 ((n + Sn.cnt (l.take k) : Nat) : Int) ∧ Hid (Below w1.heap.size w1 wx)) (fun _ i _ => l.length - (intOf i).toNat)
      case atStart => exact ⟨0, Nat.zero_le _, rfl, by simp [Sn.cnt], Lib.hid (Below.refl _ _)⟩
      case round =>
        obtain ⟨k, hk, rfl, rfl, hbx⟩ := hrel
        by_cases hlt2 : k < l.length
        · have d1 : (k : Int) < (l.length : Int) := by omega
          have d2 : (0 : Int) ≤ (k : Int) := by omega
          obtain ⟨b, off, rfl, hb, c0, c1, c2, c3⟩ := rows_at (RD.out.below hbx.out) hlt2
          have ct := cnt_take hlt2
          have cl := cnt_le (l.take k)
          rw [List.length_take] at cl
          generalize l[k].since = sn at *
          generalize l[k].text = tx at *
          generalize l[k].gone = gn at *
          generalize l[k].forgot = fg at *
          generalize Sn.cnt (l.take k) = m at *
          cases gn
          · go_wp2_with fail
            exact ⟨⟨k + 1, by omega, by go_num, by rw [ct]; exact congrArg (Value.int .i64) (by simp; omega), Lib.hid (hbx.out.trans ((Below.refl _ _).alloc (hbx.out.size) _))⟩, by simp [intOf]; omega⟩
          · go_wp2_with fail
            exact ⟨⟨k + 1, by omega, by go_num, by rw [ct]; exact congrArg (Value.int .i64) (by simp), Lib.hid (hbx.out.trans ((Below.refl _ _).alloc (hbx.out.size) _))⟩, by simp [intOf]; omega⟩
        · have d1 : ¬ (k : Int) < (l.length : Int) := by omega
          have hkl : k = l.length := by omega
          subst hkl
          have NX1 := NX.out wr hbx.out
          go_wp2_with fail
          rw [List.take_length]
          refine ⟨⟨_, _, _, _, rfl, Lib.hid NX1⟩, ?_⟩
          rw [NX1.rg.left_eq, ORG]
          exact hlt
end Go.Proofs.Ytfhgidbmeifflaa
