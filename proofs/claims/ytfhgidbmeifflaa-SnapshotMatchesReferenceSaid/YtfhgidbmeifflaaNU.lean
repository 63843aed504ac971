/- WALKS: short, do. -/
import Derived.Test.YtfhgidbmeifflaaNT
set_option linter.unusedSimpArgs false
set_option linter.unusedVariables false
namespace Go.Proofs.Ytfhgidbmeifflaa
open Go.RowKit Go.Maps Go.ChangeMaps Go.MapKept Go.WideShapes Go.WideMaps

theorem flat_get {α : Type} (f : α → List Value) (m : Nat) (hf : ∀ a, (f a).length = m) : ∀ {l : List α} {k : Nat} (h : k < l.length) {i : Nat} {u : Value}, (f l[k])[i]? = some u → (l.flatMap f)[k * m + i]? = some u
  | [], _, h, _, _, _ => by simp at h
  | a :: l, 0, _, i, u, hu => by
    rw [List.flatMap_cons, Nat.zero_mul, Nat.zero_add]
    have hi := (List.getElem?_eq_some_iff.1 hu).1
    have hi : i < (f a).length := hi
    rw [List.getElem?_append_left hi]; exact hu
  | a :: l, k + 1, h, i, u, hu => by
    have ih := flat_get f m hf (l := l) (k := k) (by simpa using h) (i := i) (u := u) (by simpa using hu)
    rw [List.flatMap_cons, List.getElem?_append_right (by rw [hf, Nat.succ_mul]; omega), hf]
    rw [show (k + 1) * m + i - m = k * m + i by rw [Nat.succ_mul]; omega]
    exact ih
theorem flat_len {α : Type} (f : α → List Value) (m : Nat) (hf : ∀ a, (f a).length = m) (l : List α) : (l.flatMap f).length = l.length * m := by
  induction l with
  | nil => simp
  | cons a l ih => rw [List.flatMap_cons, List.length_append, ih, hf, List.length_cons, Nat.succ_mul]; omega
/-- an operation's cells -/
def opCells (o : OpV) : List Value := [.int .u8 (o.kind : Int), .string (mkB o.key), .string (mkB o.value), .string (mkB o.other), .string (mkB o.second), .int .u8 (o.n : Int)]
def opAgg (o : OpV) : Value := .agg #[.int .u8 (o.kind : Int), .string (mkB o.key), .string (mkB o.value), .string (mkB o.other), .string (mkB o.second), .int .u8 (o.n : Int)]
def opsC (l : List OpV) : List Value := l.flatMap opCells
theorem opsC_len (l : List OpV) : (opsC l).length = l.length * 6 := flat_len opCells 6 (fun _ => rfl) l
theorem ops_at {w : World} {A : Option Addr} {l : List OpV} (h : Rd w A (opsC l)) {k : Nat} (hk : k < l.length) :
    ∃ b off, A = some ⟨b, off, none⟩ ∧ b < w.heap.size ∧ w.cell? ⟨b, off + k * 6, none⟩ = some (.int .u8 (l[k].kind : Int)) ∧ w.cell? ⟨b, off + k * 6 + 1, none⟩ = some (.string (mkB l[k].key)) ∧ w.cell? ⟨b, off + k * 6 + 2, none⟩ = some (.string (mkB l[k].value)) ∧
      w.cell? ⟨b, off + k * 6 + 3, none⟩ = some (.string (mkB l[k].other)) ∧ w.cell? ⟨b, off + k * 6 + 4, none⟩ = some (.string (mkB l[k].second)) ∧ w.cell? ⟨b, off + k * 6 + 5, none⟩ = some (.int .u8 (l[k].n : Int)) := by
  obtain ⟨b, off, e, hb, hc⟩ := h (by rw [opsC_len]; omega)
  have g : ∀ f u, (opCells l[k])[f]? = some u → w.cell? ⟨b, off + (k * 6 + f), none⟩ = some u := fun f u hu => hc (k * 6 + f) u (flat_get opCells 6 (fun _ => rfl) hk hu)
  refine ⟨b, off, e, hb, g 0 _ rfl, ?_, ?_, ?_, ?_, ?_⟩
  · have := g 1 _ rfl; rwa [← Nat.add_assoc] at this
  · have := g 2 _ rfl; rwa [← Nat.add_assoc] at this
  · have := g 3 _ rfl; rwa [← Nat.add_assoc] at this
  · have := g 4 _ rfl; rwa [← Nat.add_assoc] at this
  · have := g 5 _ rfl; rwa [← Nat.add_assoc] at this
def okOp (o : OpV) : Bool := !(decide (300 < o.key.length) || decide (300 < o.value.length) || decide (300 < o.other.length) || decide (300 < o.second.length))
def shortB (l : List OpV) (n : Nat) : Bool := decide (l.length ≤ n) && l.all okOp
set_option maxHeartbeats 4000000 in
set_option maxRecDepth 100000 in
theorem short_any (A : Option Addr) (n c : Nat) (l : List OpV) (q : Nat) (w : World) (hn : n = l.length) (hl : n ≤ 9223372036854775807) (hq : q ≤ 1000) (h : Rd w A (opsC l)) :
    Calls Try.prog 10 #[.slice A n c, .int .i64 (q : Int)] w fun e w' => e = .returned (.bool (shortB l q)) ∧ Below w.heap.size w w' := by
  have H := Lib.hid h
  have HN := Lib.hid hn
  clear h hn
  go_enter Try.func10, Try.ntmps10
  go_wp2_with fail
  go_loopw [5] (fun s5 wr => ∃ k : Nat, k ≤ n ∧ s5 = .int .i64 (k : Int) ∧ Hid ((l.take k).all okOp = true) ∧ Hid (Below w.heap.size w wr)) (fun i _ => n - (intOf i).toNat)
  case atStart => exact ⟨0, Nat.zero_le _, rfl, Lib.hid rfl, Lib.hid (Below.refl _ _)⟩
  case round =>
    obtain ⟨k, hk, rfl, AL, BL⟩ := hrel
    by_cases hlt : k < n
    · have hkl : k < l.length := by have := HN.out; omega
      have d1 : (k : Int) < (n : Int) := by omega
      have d2 : (0 : Int) ≤ (k : Int) := by omega
      by_cases hnq : n ≤ q
      · have d3 : (n : Int) ≤ (q : Int) := by omega
        obtain ⟨b, off, rfl, hb, c0, c1, c2, c3, c4, c5⟩ := ops_at (H.out.below BL.out) hkl
        have m1 := mkB_len l[k].key
        have m2 := mkB_len l[k].value
        have m3 := mkB_len l[k].other
        have m4 := mkB_len l[k].second
        have BAD : Hid (okOp l[k] = false → shortB l q = false) := Lib.hid (fun h => by
          unfold shortB
          rw [Bool.and_eq_false_iff]
          right
          rw [List.all_eq_false]
          exact ⟨l[k], List.getElem_mem hkl, by rw [h]; simp⟩)
        have GOOD : Hid (okOp l[k] = true → (l.take (k + 1)).all okOp = true) := Lib.hid (fun h => by
          rw [List.take_succ_eq_append_getElem hkl, List.all_append, AL.out]; simp [h])
        have OK : Hid (okOp l[k] = !(decide (300 < l[k].key.length) || decide (300 < l[k].value.length) || decide (300 < l[k].other.length) || decide (300 < l[k].second.length))) := Lib.hid rfl
        generalize l[k].key = t1 at *
        generalize l[k].value = t2 at *
        generalize l[k].other = t3 at *
        generalize l[k].second = t4 at *
        by_cases x1 : 300 < t1.length
        · have y1 : (300 : Int) < (t1.length : Int) := by omega
          go_wp2_with fail
          go_ret
          exact ⟨by rw [BAD.out (by rw [OK.out]; simp [x1])]; rfl, BL.out⟩
        · have y1 : ¬ (300 : Int) < (t1.length : Int) := by omega
          by_cases x2 : 300 < t2.length
          · have y2 : (300 : Int) < (t2.length : Int) := by omega
            go_wp2_with fail
            go_ret
            exact ⟨by rw [BAD.out (by rw [OK.out]; simp [x2])]; rfl, BL.out⟩
          · have y2 : ¬ (300 : Int) < (t2.length : Int) := by omega
            by_cases x3 : 300 < t3.length
            · have y3 : (300 : Int) < (t3.length : Int) := by omega
              go_wp2_with fail
              go_ret
              exact ⟨by rw [BAD.out (by rw [OK.out]; simp [x3])]; rfl, BL.out⟩
            · have y3 : ¬ (300 : Int) < (t3.length : Int) := by omega
              by_cases x4 : 300 < t4.length
              · have y4 : (300 : Int) < (t4.length : Int) := by omega
                go_wp2_with fail
                go_ret
                exact ⟨by rw [BAD.out (by rw [OK.out]; simp [x4])]; rfl, BL.out⟩
              · have y4 : ¬ (300 : Int) < (t4.length : Int) := by omega
                have GD := Lib.hid (GOOD.out (by rw [OK.out]; simp [x1, x2, x3, x4]))
                go_wp2_with fail
                exact ⟨⟨k + 1, by omega, by go_num, GD, BL⟩, by simp [intOf]; omega⟩
      · have d3 : ¬ (n : Int) ≤ (q : Int) := by omega
        have RS : Hid (shortB l q = false) := Lib.hid (by unfold shortB; rw [← HN.out]; simp [hnq])
        go_wp2_with fail
        go_ret
        exact ⟨by rw [RS.out]; rfl, BL.out⟩
    · have d1 : ¬ (k : Int) < (n : Int) := by omega
      have hkl : k = l.length := by have := HN.out; omega
      have RS : Hid (shortB l q = decide (n ≤ q)) := Lib.hid (by
        have := AL.out
        rw [hkl, List.take_length] at this
        unfold shortB
        rw [this, Bool.and_true, ← HN.out])
      go_wp2_with fail
      go_ret
      exact ⟨by rw [RS.out]; rfl, BL.out⟩
theorem putM_one (k v : Tx) : updM (fun _ => none) (.string k) (.string (mkB v)) = putM [(k, v)] := by
  funext kl
  unfold updM
  by_cases e : kl = .string k
  · subst e; rw [if_pos (by simp [Lit.sameKey])]; simp [putM, getP]
  · rw [if_neg (by rw [Maps.sameKey_ne e]; simp)]
    cases kl with
    | string u => have : u ≠ k := fun h => e (by rw [h]); simp [putM, getP, this]
    | _ => rfl
theorem putM_two (k v o s : Tx) (hne : o ≠ k) : updM (putM [(k, v)]) (.string o) (.string (mkB s)) = putM [(k, v), (o, s)] := by
  funext kl
  unfold updM
  by_cases e : kl = .string o
  · subst e; rw [if_pos (by simp [Lit.sameKey])]; simp [putM, getP, hne]
  · rw [if_neg (by rw [Maps.sameKey_ne e]; simp)]
    cases kl with
    | string u =>
      have : u ≠ o := fun h => e (by rw [h])
      by_cases h : u = k <;> simp [putM, getP, this, h]
    | _ => rfl
theorem mkB_tl (t : Tx) : (mkB t).toList = t := by rw [ByteArray.toList_eq, mkB_list]
/-- what 'do' leaves -/
def DoPost (p : Nat) (F : Nat → Prop) (r : Sh × Int × Nat) (w : World) (e : Ending) (w' : World) : Prop :=
  e = .returned (.tuple #[.int .i64 r.2.1, .int .i64 (r.2.2 : Int)]) ∧ ShPost w p F r.1 w'
theorem ShPost.from {w u w' : World} {p : Nat} {F : Nat → Prop} {s : Sh} (h : ShPost u p F s w') (hb : Below w.heap.size w u) : ShPost w p F s w' := by
  obtain ⟨F', h1, h2, h3⟩ := h
  exact ⟨F', h1, fun g hg => (h2 g hg).imp id (fun e => Nat.le_trans hb.size e), (But.of_below hb).trans h3⟩
set_option maxHeartbeats 4000000 in
set_option maxRecDepth 100000 in
theorem do_any (p : Nat) (F : Nat → Prop) (s : Sh) (o : OpV) (k : Nat) (w : World) (hI : Inv s k) (hk : k ≤ 1000) (ho : okOp o = true) (hkd : o.kind ≤ 255) (hn : o.n ≤ 255) (h : ShAt w p F s) :
    Calls Try.prog 13 #[.pointer (some ⟨p, 0, none⟩), opAgg o] w (DoPost p F (doF s o) w) := by
  have H := Lib.hid h
  have SI := Lib.hid (hI.sh (by omega))
  have IN := Lib.hid hI
  have hok : o.key.length ≤ 300 ∧ o.value.length ≤ 300 ∧ o.other.length ≤ 300 ∧ o.second.length ≤ 300 := by
    unfold okOp at ho
    simp at ho
    omega
  have FL : Hid (∀ g, F g → g < w.heap.size) := Lib.hid (by obtain ⟨bm, br, nk, hd, hh⟩ := h; exact hh.lt)
  have DD : Hid (doF s o = if o.kind % 6 = 0 then ((writeF s o.put []).1, ((writeF s o.put []).2.1 : Int), (writeF s o.put []).2.2)
    else if o.kind % 6 = 1 then ((writeF s o.put [o.other]).1, ((writeF s o.put [o.other]).2.1 : Int), (writeF s o.put [o.other]).2.2)
    else if o.kind % 6 = 2 then ((openF s).1, ((openF s).2.1 : Int), (openF s).2.2)
    else if o.kind % 6 = 3 then ((closeF s o.n).1, 0, (closeF s o.n).2)
    else if o.kind % 6 = 4 then (collectF s (timesOf s), (heldN s.keys : Int) - (heldN (collectF s (timesOf s)).keys : Int), 0)
    else ((forgetF s o.key).1, 0, (forgetF s o.key).2)) := Lib.hid rfl
  have PT : Hid (o.put = if o.kind % 6 = 0 ∧ o.other ≠ [] ∧ o.other ≠ o.key then [(o.key, o.value), (o.other, o.second)] else [(o.key, o.value)]) := Lib.hid rfl
  have PL := Lib.hid o.put_len
  have PN := Lib.hid o.put_nd
  generalize doF s o = DF at *
  unfold opAgg
  have h2 : ∀ u : World, (Instr.makeMap 47 none).run Try.prog u = .ok (.map (some u.heap.size)) (u.alloc (.map #[] 0)) := fun u => run_makeMap _ _
  obtain ⟨wa, hwa⟩ : ∃ wa, wa = w.alloc (.cells #[.int .u8 (o.kind : Int), .string (mkB o.key), .string (mkB o.value), .string (mkB o.other), .string (mkB o.second), .int .u8 (o.n : Int)] 33) := ⟨_, rfl⟩
  have m0 := MapAt.made wa Try.prog 9
  obtain ⟨u1, hup, m1, hg1⟩ := m0.upd strK Try.underlying47 (by unfold maxLen; omega) (key_of o.key (by omega)) (.string (mkB o.value))
  rw [putM_one] at m1
  have A1 : wa.heap.size = w.heap.size + 1 := by rw [hwa]; simp
  rw [A1] at hup m1 hg1
  have HZ : w.heap.size + 1 < u1.heap.size := m1.lt
  have hB : u1.heap[w.heap.size]? = some (.cells #[.int .u8 (o.kind : Int), .string (mkB o.key), .string (mkB o.value), .string (mkB o.other), .string (mkB o.second), .int .u8 (o.n : Int)] 33 (0, 0)) :=
    (hg1.block _ (by simp [A1]; omega) (fun e => by injection e with e; omega)).trans ((alloc_old _ _ (by rw [A1]; omega)).trans (by rw [hwa]; exact heap_alloc_new w _))
  have hbw : Below w.heap.size w u1 := ⟨by rw [hg1.os, hwa]; rfl, by rw [hg1.tape, hwa]; rfl, by rw [hg1.output, hwa]; rfl, by omega, fun k hk => (hg1.block k (by simp [A1]; omega) (fun e => by injection e with e; omega)).trans ((alloc_old _ _ (by rw [A1]; omega)).trans (by rw [hwa]; exact alloc_old _ _ hk))⟩
  rw [hwa] at hup
  have c0 : u1.cell? ⟨w.heap.size, 0, none⟩ = some (.int .u8 (o.kind : Int)) := cell_of_row u1 _ 0 _ _ _ hB
  have c1 : u1.cell? ⟨w.heap.size, 1, none⟩ = some (.string (mkB o.key)) := cell_of_row u1 _ 1 _ _ _ hB
  have c3 : u1.cell? ⟨w.heap.size, 3, none⟩ = some (.string (mkB o.other)) := cell_of_row u1 _ 3 _ _ _ hB
  have c4 : u1.cell? ⟨w.heap.size, 4, none⟩ = some (.string (mkB o.second)) := cell_of_row u1 _ 4 _ _ _ hB
  have c5 : u1.cell? ⟨w.heap.size, 5, none⟩ = some (.int .u8 (o.n : Int)) := cell_of_row u1 _ 5 _ _ _ hB
  have M1 := Lib.hid m1
  have BW := Lib.hid hbw
  have S1 := Lib.hid (h.below hbw)
  have NB : Hid (¬ F (w.heap.size + 1)) := Lib.hid (fun h => by have := FL.out _ h; omega)
  have BZ : ∀ g, F g → g < u1.heap.size := fun g hg => by have := FL.out g hg; omega
  have BZH := Lib.hid BZ
  have NRD := hI.nrd
  clear ho h hI m0 m1 hg1 hbw hwa A1 hB FL BZ H
  obtain ⟨kd, key, value, other, second, nn⟩ := o
  dsimp only at *
  have tO := mkB_tl other
  have tK := mkB_tl key
  have kq : (kd : Int) % 6 = ((kd % 6 : Nat) : Int) := by omega
  have kq6 : kd % 6 < 6 := Nat.mod_lt _ (by omega)
  generalize kd % 6 = q at *
  by_cases q0 : q = 0
  · subst q0
    have b0 : ((kd : Int) % 6 == 0) = true := by rw [kq]; rfl
    rw [if_pos rfl] at DD
    by_cases x1 : other = []
    · have e1 : other.isEmpty = true := by rw [x1]; rfl
      rw [if_neg (fun h => h.2.1 x1)] at PT
      have WR := Lib.hid (write_any p F s [(key, value)] (w.heap.size + 1) [] none 0 0 u1 rfl SI.out S1.out ⟨M1.out, NB.out, Rd.nil_ _ _, fun b off e => (by cases e), by simp, by simp, by simp, fun q hq => by
        rw [List.mem_singleton.1 hq]; exact ⟨by show key.length ≤ 1000000; omega, by show value.length ≤ 1000000; omega⟩, fun t ht => by cases ht⟩)
      rw [PT.out] at DD
      clear PT PL PN x1 kq M1 S1 NB BZH SI IN
      generalize writeF s [(key, value)] [] = R at *
      go_enter Try.func13, Try.ntmps13
      go_wp2_with fail
      refine WR.out.mono ?_
      rintro e w2 ⟨rfl, hp⟩
      have HP2 := Lib.hid (hp.from BW.out)
      clear hp
      go_wp2_with fail
      go_ret2
      exact ⟨by rw [DD.out]; rfl, by rw [DD.out]; exact HP2.out⟩
    · have e1 : other.isEmpty = false := by cases other with
        | nil => exact absurd rfl x1
        | cons a l => rfl
      by_cases x2 : other = key
      · have e2 : (other == key) = true := by rw [x2]; simp
        rw [if_neg (fun h => h.2.2 x2)] at PT
        have WR := Lib.hid (write_any p F s [(key, value)] (w.heap.size + 1) [] none 0 0 u1 rfl SI.out S1.out ⟨M1.out, NB.out, Rd.nil_ _ _, fun b off e => (by cases e), by simp, by simp, by simp, fun q hq => by
        rw [List.mem_singleton.1 hq]; exact ⟨by show key.length ≤ 1000000; omega, by show value.length ≤ 1000000; omega⟩, fun t ht => by cases ht⟩)
        rw [PT.out] at DD
        clear PT PL PN x1 x2 kq M1 S1 NB BZH SI IN
        generalize writeF s [(key, value)] [] = R at *
        go_enter Try.func13, Try.ntmps13
        go_wp2_with fail
        refine WR.out.mono ?_
        rintro e w2 ⟨rfl, hp⟩
        have HP2 := Lib.hid (hp.from BW.out)
        clear hp
        go_wp2_with fail
        go_ret2
        exact ⟨by rw [DD.out]; rfl, by rw [DD.out]; exact HP2.out⟩
      · have e2 : (other == key) = false := by simpa using x2
        rw [if_pos ⟨rfl, x1, x2⟩] at PT
        obtain ⟨u2, hup2, m2, hg2⟩ := M1.out.upd strK Try.underlying47 (by unfold maxLen; split <;> omega) (key_of other (by omega)) (.string (mkB second))
        rw [putM_two _ _ _ _ x2] at m2
        have hn2 : 0 + (if ((fun _ => none : Lit → Option Value) (.string key)).isSome then 0 else 1) + (if (putM [(key, value)] (.string other)).isSome then 0 else 1) = 2 := by simp [putM, getP, x2]
        rw [hn2] at m2
        have b2 : Below w.heap.size w u2 := BW.out.trans ⟨hg2.os, hg2.tape, hg2.output, hg2.size, fun k hk => hg2.block k (by omega) (fun e => by injection e with e; omega)⟩
        have S2 : ShAt u2 p F s := S1.out.but (G := fun g => g = w.heap.size + 1) ⟨hg2.os, hg2.tape, hg2.output, hg2.size, fun k hk hx => hg2.block k hk (fun e => by injection e with e; exact hx e)⟩ (fun g hg e => NB.out (e ▸ hg))
        have WR := Lib.hid (write_any p F s [(key, value), (other, second)] (w.heap.size + 1) [] none 0 0 u2 rfl SI.out S2 ⟨m2, NB.out, Rd.nil_ _ _, fun b off e => (by cases e), by
          have := PN.out
          rw [PT.out] at this
          exact this, by simp, by simp, fun q hq => by
          rcases List.mem_cons.1 hq with rfl | hq
          · exact ⟨by show key.length ≤ 1000000; omega, by show value.length ≤ 1000000; omega⟩
          · rw [List.mem_singleton.1 hq]; exact ⟨by show other.length ≤ 1000000; omega, by show second.length ≤ 1000000; omega⟩, fun t ht => by cases ht⟩)
        rw [PT.out] at DD
        have BW2 := Lib.hid b2
        clear PT PL PN x1 x2 kq M1 S1 NB BZH SI IN m2 hg2 b2 S2 hn2 BW
        have BW := BW2
        clear BW2
        generalize writeF s [(key, value), (other, second)] [] = R at *
        go_enter Try.func13, Try.ntmps13
        go_wp2_with fail
        refine WR.out.mono ?_
        rintro e w2 ⟨rfl, hp⟩
        have HP2 := Lib.hid (hp.from BW.out)
        clear hp
        go_wp2_with fail
        go_ret2
        exact ⟨by rw [DD.out]; rfl, by rw [DD.out]; exact HP2.out⟩
  · have b0 : ((kd : Int) % 6 == 0) = false := by rw [kq]; simp; omega
    rw [if_neg q0] at DD
    rw [if_neg (fun h => q0 h.1)] at PT
    by_cases q1 : q = 1
    · subst q1
      have b1 : ((kd : Int) % 6 == 1) = true := by rw [kq]; rfl
      rw [if_pos rfl] at DD
      have b2 : Below u1.heap.size u1 (u1.alloc (.cells #[.string (mkB other)] 9)) := (Below.refl _ _).alloc (Nat.le_refl _) _
      have WR := Lib.hid (write_any p F s [(key, value)] (w.heap.size + 1) [other] (some ⟨u1.heap.size, 0, none⟩) 1 1 _ rfl SI.out (S1.out.below b2) ⟨M1.out.same (b2.block _ HZ), NB.out, Rd.of_row (heap_alloc_new u1 _) (List.prefix_refl _), fun b off e => by
        injection e with e; injection e with e1 _; rw [← e1]; exact fun h => by have := BZH.out _ h; omega, by simp, by simp, by simp, fun q hq => by
        rw [List.mem_singleton.1 hq]; exact ⟨by show key.length ≤ 1000000; omega, by show value.length ≤ 1000000; omega⟩, fun t ht => by rw [List.mem_singleton.1 ht]; omega⟩)
      rw [PT.out] at DD
      have BW2 := Lib.hid (BW.out.trans (b2.mono (by omega)))
      clear PT PL PN q0 kq M1 S1 NB BZH SI IN BW b2
      have BW := BW2
      clear BW2
      generalize writeF s [(key, value)] [other] = R at *
      go_enter Try.func13, Try.ntmps13
      go_wp2_with fail
      refine WR.out.mono ?_
      rintro e w2 ⟨rfl, hp⟩
      have HP2 := Lib.hid (hp.from BW.out)
      clear hp
      go_wp2_with fail
      go_ret2
      exact ⟨by rw [DD.out]; rfl, by rw [DD.out]; exact HP2.out⟩
    · have b1 : ((kd : Int) % 6 == 1) = false := by rw [kq]; simp; omega
      rw [if_neg q1] at DD
      clear PT PL PN M1 NB
      by_cases q2 : q = 2
      · subst q2
        have b2 : ((kd : Int) % 6 == 2) = true := by rw [kq]; rfl
        rw [if_pos rfl] at DD
        have WR := Lib.hid (open_any p F s u1 SI.out NRD S1.out)
        clear q0 q1 kq S1 BZH SI IN
        generalize openF s = R at *
        go_enter Try.func13, Try.ntmps13
        go_wp2_with fail
        refine WR.out.mono ?_
        rintro e w2 ⟨rfl, hp⟩
        have HP2 := Lib.hid (hp.from BW.out)
        clear hp
        go_wp2_with fail
        go_ret2
        exact ⟨by rw [DD.out]; rfl, by rw [DD.out]; exact HP2.out⟩
      · have b2 : ((kd : Int) % 6 == 2) = false := by rw [kq]; simp; omega
        rw [if_neg q2] at DD
        by_cases q3 : q = 3
        · subst q3
          have b3 : ((kd : Int) % 6 == 3) = true := by rw [kq]; rfl
          rw [if_pos rfl] at DD
          have WR := Lib.hid (close_any p F s nn u1 S1.out (by omega))
          have wn : IntKind.i64.wrap (nn : Int) = (nn : Int) := IntWalk.i64_in _ (by omega)
          clear q0 q1 q2 kq S1 BZH SI IN
          generalize closeF s nn = R at *
          go_enter Try.func13, Try.ntmps13
          go_wp2_with fail
          refine WR.out.mono ?_
          rintro e w2 ⟨rfl, hp⟩
          have HP2 := Lib.hid (hp.from BW.out)
          clear hp
          go_wp2_with fail
          go_ret2
          exact ⟨by rw [DD.out]; rfl, by rw [DD.out]; exact HP2.out⟩
        · have b3 : ((kd : Int) % 6 == 3) = false := by rw [kq]; simp; omega
          rw [if_neg q3] at DD
          by_cases q4 : q = 4
          · subst q4
            have b4 : ((kd : Int) % 6 == 4) = true := by rw [kq]; rfl
            rw [if_pos rfl] at DD
            have WR := Lib.hid (collect_any p F s u1 SI.out NRD S1.out)
            clear q0 q1 q2 q3 kq S1 BZH SI IN
            go_enter Try.func13, Try.ntmps13
            go_wp2_with fail
            refine WR.out.mono ?_
            rintro e w2 ⟨ts, n0, n1, ht, hh0, hh1, rfl, hp⟩
            have e1 := (times_eq ht).1
            rw [e1] at hh1 hp
            rw [heldN_eq hh0, heldN_eq hh1] at DD
            have HP2 := Lib.hid (hp.from BW.out)
            clear hp hh0 hh1 ht e1
            go_wp2_with fail
            go_ret2
            exact ⟨by rw [DD.out]; rfl, by rw [DD.out]; exact HP2.out⟩
          · have b4 : ((kd : Int) % 6 == 4) = false := by rw [kq]; simp; omega
            rw [if_neg q4] at DD
            have WR := Lib.hid (forget_any p F s (mkB key) u1 SI.out S1.out (by rw [mkB_len]; omega))
            rw [mkB_list] at WR
            clear q0 q1 q2 q3 q4 kq S1 BZH SI IN
            generalize forgetF s key = R at *
            go_enter Try.func13, Try.ntmps13
            go_wp2_with fail
            refine WR.out.mono ?_
            rintro e w2 ⟨rfl, hp⟩
            have HP2 := Lib.hid (hp.from BW.out)
            clear hp
            go_wp2_with fail
            go_ret2
            exact ⟨by rw [DD.out]; rfl, by rw [DD.out]; exact HP2.out⟩
end Go.Proofs.Ytfhgidbmeifflaa
