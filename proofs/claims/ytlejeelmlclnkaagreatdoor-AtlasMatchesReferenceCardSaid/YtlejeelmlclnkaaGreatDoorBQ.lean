/- WALKS: atlas.Refers. -/
import Derived.Test.YtlejeelmlclnkaaGreatDoorBP
set_option linter.unusedSimpArgs false
set_option linter.unusedVariables false
namespace Go.Proofs.YtlejeelmlclnkaaGreatDoor
open Go.RowKit

/-- append of m elements that have just been laid in a block of their own -/
theorem wpList_appN {P : Program} {ops : Array Oper} {rest : List Oper} {o : Oper} {a : Act} {Q : Exit → Act → World → Prop} {w0 : World} (hgd : o.guard = none) (s x : Operand) (t : TypeId)
    (ho : o.op = .call { callee := .builtin .append, args := #[s, x], argTypes := #[t, t] }) {e : TypeId} {z : Value} {size bytes : Nat}
    (ht : P.underlying t = some (.slice e)) (hinfo : (P.info? e).map (fun i => (i.zero, i.size, i.bytes)) = some (some z, size, bytes)) (hzs : z.cells.size = size) (hsz : 0 < size)
    (base : Nat) (v : Value) (n : Nat) (xs : List Value) (cs : Array Value) (m : Nat) (hm : 0 < m) (hcs : cs.size = m * size) (h1 : ∀ u ∈ cs.toList, u.oneCell' = true)
    (hs : a.eval s = v) {g : Nat} (hx : a.eval x = .slice (some ⟨g, 0, none⟩) m m) (hg : w0.heap.size = g) (hown : w0.ownsRow base e size v n xs) (hb : base ≤ w0.heap.size)
    (hbytes : (n + m) * bytes ≤ 140737488355328) (hmax : n + m ≤ 9223372036854775807)
    (h : ∀ g' c' w', w'.ownsRow base e size (.slice (some ⟨g', 0, none⟩) (n + m) c') (n + m) (xs ++ cs.toList) → w0.grownBy w' v.ownBlock → (v.ownBlock = some g' ∨ w0.heap.size ≤ g') → Below base w0 w' → wpList P ops Q rest (a.put o.dst (.slice (some ⟨g', 0, none⟩) (n + m) c')) w') :
    wpList P ops Q (o :: rest) a (w0.alloc (.cells cs e)) := by
  subst hg
  obtain ⟨i, hi, hz, hsi, hby⟩ := info_parts hinfo
  refine wpList_append_lies (w0.alloc (.cells cs e)) hgd s x t ho base e i z size bytes ht hi hz hsi hby hzs hsz v n xs hs (hown.alloc _) ⟨w0.heap.size, 0, none⟩ m m cs.toList hx (by simpa using hcs)
    (World.news_of_block (cs := cs) (t := e) (fr := (0, 0)) (heap_alloc_new w0 _)) h1 hm (by simpa [maxLen] using hmax) hbytes (by simp; omega) _ rfl ?_
  intro g cap w' hown' hg hgo _
  have hg0 : w0.grownBy w' v.ownBlock := ⟨hg.os, hg.tape, hg.output, Nat.le_trans (by simp) hg.size, fun k hk hne => (hg.block k (by simp; omega) hne).trans (alloc_old _ _ hk)⟩
  exact h g cap w' hown' hg0 (hgo.imp id (fun e => by rw [e]; simp)) (grown_below hg0 (fun k hk => (hown.lt k hk).1) hb)
theorem info_str : (Tryz.prog.info? 9).map (fun i => (i.zero, i.size, i.bytes)) = some (some (.string .empty), 1, 16) := by kernel_rfl
set_option maxHeartbeats 1000000 in
theorem indexs_any (A : Option Addr) (n c : Nat) (l : List Tx) (s : Tx) (w : World) (hn : n = l.length) (hl : n ≤ 1000000) (h : Rd w A (strsC l)) :
    Calls Tryz.prog 111 #[.slice A n c, .string (mkB s)] w fun e w' => MIdx (!decide (s ∈ l)) e ∧ Below w.heap.size w w' := by
  have H := Lib.hid h
  have HN := Lib.hid hn
  clear h hn
  have ts := mkB_tl s
  obtain ⟨R, hR⟩ : ∃ R, decide (s ∈ l) = R := ⟨_, rfl⟩
  have HR : Hid (R = decide (s ∈ l)) := Lib.hid hR.symm
  rw [hR]
  clear hR
  go_enter Tryz.func111, Tryz.ntmps111
  go_wp2_with fail
  go_loopw [8] (fun s8 wr => ∃ k : Nat, k ≤ n ∧ s8 = .int .i64 (k : Int) ∧ Hid (∀ i (h : i < l.length), i < k → l[i] ≠ s) ∧ Hid (Below w.heap.size w wr)) (fun i _ => n - (intOf i).toNat)
  case atStart => exact ⟨0, Nat.zero_le _, rfl, Lib.hid (fun i _ h => absurd h (Nat.not_lt_zero _)), Lib.hid (Below.refl _ _)⟩
  case round =>
    obtain ⟨k, hkn, rfl, AL, BL⟩ := hrel
    by_cases hlt : k < n
    · have hkl : k < l.length := by rw [← HN.out]; exact hlt
      have d1 : (k : Int) < (n : Int) := by omega
      have d2 : (0 : Int) ≤ (k : Int) := by omega
      obtain ⟨b, off, rfl, hbz, c0⟩ := strs_at (H.out.below BL.out) hkl
      have FT : Hid (l[k] = s → R = true) := Lib.hid (fun e => by rw [HR.out]; exact decide_eq_true (e ▸ List.getElem_mem hkl))
      have ALn : Hid (l[k] ≠ s → ∀ i (h : i < l.length), i < k + 1 → l[i] ≠ s) := Lib.hid (fun hne i hi hik => by
        rcases Nat.lt_succ_iff_lt_or_eq.1 hik with h1 | h1
        · exact AL.out i hi h1
        · subst h1; exact hne)
      have tk := mkB_tl l[k]
      generalize l[k] = x at *
      by_cases e : x = s
      · have e1 : (s == x) = true := by rw [e]; simp
        have e2 : (x == s) = true := by rw [e]; simp
        have R2 := Lib.hid (FT.out e)
        clear FT ALn e
        go_wp2_with fail
        go_ret
        exact ⟨⟨(k : Int), rfl, by rw [R2.out, decide_eq_true d2]; rfl⟩, BL.out⟩
      · have e1 : (s == x) = false := by simp; exact fun e' => e e'.symm
        have e2 : (x == s) = false := by simpa using e
        have A2 := Lib.hid (ALn.out e)
        clear FT ALn e
        go_wp2_with fail
        exact ⟨⟨k + 1, by omega, by go_num, A2, BL⟩, by simp [intOf]; omega⟩
    · have d1 : ¬ (k : Int) < (n : Int) := by omega
      have R2 : Hid (R = false) := Lib.hid (by
        rw [HR.out]
        exact decide_eq_false (fun hm => by
          obtain ⟨i, hi, e⟩ := List.mem_iff_getElem.1 hm
          exact AL.out i hi (by have := HN.out; omega) e))
      clear AL
      go_wp2_with fail
      go_ret
      exact ⟨⟨-1, rfl, by rw [R2.out]; rfl⟩, BL.out⟩
set_option maxHeartbeats 1000000 in
theorem contains_any (A : Option Addr) (n c : Nat) (l : List Tx) (s : Tx) (w : World) (hn : n = l.length) (hl : n ≤ 1000000) (h : Rd w A (strsC l)) :
    Calls Tryz.prog 74 #[.slice A n c, .string (mkB s)] w fun e w' => e = .returned (.bool (decide (s ∈ l))) ∧ Below w.heap.size w w' := by
  have IX := Lib.hid (indexs_any A n c l s w hn hl h)
  generalize decide (s ∈ l) = R at *
  clear hn h
  go_enter Tryz.func74, Tryz.ntmps74
  go_wp2_with fail
  refine IX.out.mono ?_
  rintro e w1 ⟨⟨i, rfl, hi⟩, bt⟩
  have BT := Lib.hid bt
  clear bt IX
  cases R
  · have q : decide (0 ≤ i) = false := hi
    clear hi
    go_wp2_with fail
    go_ret
    exact ⟨rfl, BT.out⟩
  · have q : decide (0 ≤ i) = true := hi
    clear hi
    go_wp2_with fail
    go_ret
    exact ⟨rfl, BT.out⟩
def refersL (l : List At.Ob) (id : Tx) : List Tx := (l.filter fun o => decide (id ∈ o.refs)).map (·.id)
def refersM (l : List At.Ob) (id : Tx) : List Tx := if At.validM l then refersL l id else []
/-- a list of strings comes back -/
def StrsE (w : World) (r : List Tx) (e : Ending) (w' : World) : Prop :=
  ∃ (A : Option Addr) (c : Nat), e = .returned (.slice A r.length c) ∧ Rd w' A (strsC r) ∧ Below w.heap.size w w'
theorem refersL_take (l : List RO) (id : Tx) {k : Nat} (h : k < l.length) : refersL (cts (l.take (k + 1))) id = refersL (cts (l.take k)) id ++ (if decide (id ∈ l[k].c.refs) then [l[k].c.id] else []) := by
  unfold refersL cts
  rw [List.take_succ_eq_append_getElem h, List.map_append, List.filter_append, List.map_append]
  congr 1
  by_cases e : id ∈ l[k].c.refs <;> simp [e]
theorem refersL_len (l : List RO) (id : Tx) (k : Nat) : (refersL (cts (l.take k)) id).length ≤ k := by
  unfold refersL
  rw [List.length_map]
  exact Nat.le_trans (List.length_filter_le _ _) (by rw [cts_len, List.length_take]; omega)
set_option maxHeartbeats 4000000 in
set_option maxRecDepth 100000 in
theorem refers_any (A : Option Addr) (n c : Nat) (l : List RO) (id : Tx) (w : World) (hn : n = l.length) (h : Ms w A l) :
    Calls Tryz.prog 39 #[.agg #[.slice A n c], .string (mkB id)] w (StrsE w (refersM (cts l) id)) := by
  have hl : n ≤ 100000 := by rw [hn]; exact h.len
  have PM : Hid (refersM (cts l) id = if At.validM (cts l) then refersL (cts l) id else []) := Lib.hid rfl
  obtain ⟨X, hX⟩ : ∃ X, X = (w.alloc (.cells #[.slice A n c] 24)).alloc (.cells #[.slice A n c] 24) := ⟨_, rfl⟩
  have BX : Below w.heap.size w X := by rw [hX]; exact ((Below.refl _ _).alloc (Nat.le_refl _) _).alloc (by first | (simp; done) | (simp; omega)) _
  have X0 : X.heap[w.heap.size]? = some (.cells #[.slice A n c] 24 (0, 0)) := by rw [hX]; exact (alloc_old _ _ (by first | (simp; done) | (simp; omega))).trans (heap_alloc_new w _)
  have X3 : X.heap[w.heap.size + 1]? = some (.cells #[.slice A n c] 24 (0, 0)) := by rw [hX]; exact alloc_new' _ _ _ (by first | (simp; done) | (simp; omega))
  have XZ : X.heap.size = w.heap.size + 2 := by rw [hX]; simp
  have VD := Lib.hid (valids_any (some ⟨w.heap.size + 1, 0, none⟩) 1 1 [⟨A, c, l⟩] X rfl (by omega) (Rd.of_row X3 (by rw [hn]; exact List.prefix_refl _)) (fun m hm => by rw [List.mem_singleton.1 hm]; exact h.below BX))
  have AV : allV [⟨A, c, l⟩] = At.validM (cts l) := by simp [allV]
  rw [AV] at VD
  have HB := Lib.hid BX
  have H0 := Lib.hid X0
  have HM := Lib.hid h
  have HN := Lib.hid hn
  clear X0 X3 BX h hn AV
  go_enter Tryz.func39, Tryz.ntmps39
  go_wp2_with fail
  try rw [← hX]
  clear hX
  refine VD.out.mono ?_
  rintro e u1 ⟨rfl, b1⟩
  have B1 := Lib.hid (HB.out.trans (Below.mono b1 HB.out.size))
  have k0 := cell_of_row u1 w.heap.size 0 _ _ _ ((b1.block _ (by omega)).trans H0.out)
  simp at k0
  clear b1 VD
  cases hV : At.validM (cts l)
  · have PE : Hid (refersM (cts l) id = []) := Lib.hid (by rw [PM.out, hV]; rfl)
    go_wp2_with fail
    go_ret
    exact ⟨none, 0, by rw [PE.out]; rfl, by rw [PE.out]; exact Rd.nil_ _ _, B1.out⟩
  · have PE : Hid (refersM (cts l) id = refersL (cts l) id) := Lib.hid (by rw [PM.out, hV]; rfl)
    have ST : Hid (u1.ownsRow w.heap.size 9 1 (.slice none 0 0) (refersL (cts (l.take 0)) id).length (strsC (refersL (cts (l.take 0)) id))) := Lib.hid (World.ownsRow_nil _ _ _ _)
    clear PM
    go_wp2_with fail
    go_loopw [5, 7, 15] (fun s5 s7 s15 wr => ∃ k : Nat, k ≤ n ∧ s15 = .int .i64 (k : Int) ∧ (∃ p, s7 = p) ∧ Hid (wr.ownsRow w.heap.size 9 1 s5 (refersL (cts (l.take k)) id).length (strsC (refersL (cts (l.take k)) id))) ∧ Hid (Below w.heap.size w wr)) (fun _ _ i _ => n - (intOf i).toNat)
    case atStart => exact ⟨0, Nat.zero_le _, rfl, ⟨_, rfl⟩, ST, B1⟩
    case round =>
      clear ST B1 k0
      obtain ⟨k, hk, rfl, ⟨p7, rfl⟩, OW, BL⟩ := hrel
      by_cases hlt : k < n
      · have hkl : k < l.length := by rw [← HN.out]; exact hlt
        have d1 : (k : Int) < (n : Int) := by omega
        have d2 : (0 : Int) ≤ (k : Int) := by omega
        obtain ⟨b, off, rfl, hb, c0, c1, c2, c3, c4, c5⟩ := ros_at (HM.out.rd.below BL.out) hkl
        have HO := HM.out.ob l[k] (List.getElem_mem hkl)
        have SZ := (HM.out.sz l[k] (List.getElem_mem hkl)).1
        have TK := Lib.hid (refersL_take l id hkl)
        have LE := refersL_len l id k
        generalize refersL (cts (l.take k)) id = L at *
        generalize l[k] = x at *
        obtain ⟨A1, q1, v1, r1⟩ := HO.rs
        obtain ⟨A2, q2, v2, -⟩ := HO.ts
        rw [v1] at c4
        rw [v2] at c5
        have BX : Hid (Below wr.heap.size wr (wr.alloc (.cells #[.string (mkB x.c.id), .int .i64 x.c.kind, .int .i64 x.c.x, .int .i64 x.c.y, .slice A1 x.c.refs.length q1, .slice A2 x.c.tags.length q2] 43))) := Lib.hid ((Below.refl _ _).alloc (Nat.le_refl _) _)
        have XX := Lib.hid (heap_alloc_new wr (.cells #[.string (mkB x.c.id), .int .i64 x.c.kind, .int .i64 x.c.x, .int .i64 x.c.y, .slice A1 x.c.refs.length q1, .slice A2 x.c.tags.length q2] 43))
        have CT := Lib.hid (contains_any A1 x.c.refs.length q1 x.c.refs id (wr.alloc (.cells #[.string (mkB x.c.id), .int .i64 x.c.kind, .int .i64 x.c.x, .int .i64 x.c.y, .slice A1 x.c.refs.length q1, .slice A2 x.c.tags.length q2] 43)) rfl SZ.refs (r1.below (BL.out.trans (Below.mono BX.out BL.out.size))))
        clear HO SZ v1 v2 r1
        go_wp2_with fail
        refine CT.out.mono ?_
        rintro e w1 ⟨rfl, b1⟩
        have B1 := Lib.hid (BX.out.trans (b1.mono BX.out.size))
        have B2 := Lib.hid (BL.out.trans (Below.mono B1.out BL.out.size))
        have x1c := (b1.block wr.heap.size (by simp)).trans XX.out
        have z0 := cell_of_row w1 wr.heap.size 0 _ _ _ x1c
        have zs : wr.heap.size < w1.heap.size := Nat.lt_of_lt_of_le (by simp) b1.size
        have O1 := Lib.hid (own_same OW.out (fun g hg => B1.out.block g (OW.out.lt g hg).2))
        simp at z0
        clear b1 x1c XX BX B1 CT c0 c1 c2 c3 c4 c5 OW
        cases hd : decide (id ∈ x.c.refs)
        · have T2 := Lib.hid (TK.out.trans (by rw [hd, if_neg (by simp), List.append_nil]))
          clear TK
          go_wp2_with fail
          exact ⟨⟨k + 1, by omega, by go_num, ⟨_, rfl⟩, by rw [T2.out]; exact O1, B2⟩, by simp [intOf]; omega⟩
        · have T2 := Lib.hid (TK.out.trans (by rw [hd, if_pos rfl]))
          have bz := B2.out.size
          clear TK
          go_wp2_with (at_builtin; refine wpList_appN rfl (.tmp 23) (.tmp 26) 40 rfl Tryz.underlying40 info_str rfl (by decide) w.heap.size _ L.length (strsC L) _ 1 (by decide) rfl (by intro y hy; simp at hy; rw [hy]; rfl) rfl rfl rfl O1.out bz (by omega) (by omega) ?_; intro g7 c7 w7 ho7 hg7 hl7 hb7)
          refine ⟨⟨k + 1, by omega, by go_num, ⟨_, rfl⟩, ?_, Lib.hid (B2.out.trans hb7)⟩, by simp [intOf]; omega⟩
          rw [T2.out, List.length_append]
          unfold strsC at ho7 ⊢
          rw [List.map_append]
          exact Lib.hid ho7
      · have d1 : ¬ (k : Int) < (n : Int) := by omega
        have TT : Hid (l.take k = l) := Lib.hid (List.take_of_length_le (by rw [← HN.out]; omega))
        rw [TT.out] at OW
        obtain ⟨A5, c5, hv5, hr5⟩ := own_sl OW.out
        have R5 := Lib.hid hr5
        clear hr5 OW
        subst hv5
        go_wp2_with fail
        go_ret
        exact ⟨A5, c5, by rw [PE.out]; rfl, by rw [PE.out]; exact R5.out, BL.out⟩
end Go.Proofs.YtlejeelmlclnkaaGreatDoor
