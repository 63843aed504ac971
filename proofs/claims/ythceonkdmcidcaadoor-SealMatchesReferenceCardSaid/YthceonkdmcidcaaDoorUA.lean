/- WALKS: the reference's chains, starts, nodes, digits. -/
import Derived.Test.YthceonkdmcidcaaDoorSY
import Derived.Test.YthceonkdmcidcaaDoorQH
set_option linter.unusedSimpArgs false
set_option linter.unusedVariables false
namespace Go.Proofs.YthceonkdmcidcaaDoor
open Go.RowKit

/-- an own slice of strings comes back; nothing that lay before has turned -/
def OwnP (w : World) (L : List (List UInt8)) (e : Ending) (w' : World) : Prop := ∃ A c, e = .returned (.slice A L.length c) ∧ w'.ownsRow w.heap.size 9 1 (.slice A L.length c) L.length (sv L) ∧ Below w.heap.size w w'
theorem own_new1 (w : World) (e : TypeId) (x : Value) : (w.alloc (.cells #[x] e)).ownsRow w.heap.size e 1 (.slice (some ⟨w.heap.size, 0, none⟩) 1 1) 1 [x] :=
  ⟨rfl, .inr ⟨w.heap.size, 1, #[x], rfl, Nat.le_refl _, heap_alloc_new w _, Nat.le_refl _, by decide, rfl, rfl⟩⟩
/-- append of some elements that have just been laid in a block of their own -/
theorem wpList_appM {P : Program} {ops : Array Oper} {rest : List Oper} {o : Oper} {a : Act} {Q : Exit → Act → World → Prop} (hgd : o.guard = none) (s x : Operand) (t : TypeId)
    (ho : o.op = .call { callee := .builtin .append, args := #[s, x], argTypes := #[t, t] }) {e : TypeId} {z : Value} {size bytes : Nat}
    (ht : P.underlying t = some (.slice e)) (hinfo : (P.info? e).map (fun i => (i.zero, i.size, i.bytes)) = some (some z, size, bytes)) (hzs : z.cells.size = size) (hsz : 0 < size)
    (base : Nat) (v : Value) (n m : Nat) (xs : List Value) (w0 : World) (cs : Array Value) (hcs : cs.size = m * size) (h1 : ∀ u ∈ cs.toList, u.oneCell' = true)
    (hs : a.eval s = v) {g : Nat} (hx : a.eval x = .slice (some ⟨g, 0, none⟩) m m) (hg : w0.heap.size = g) (hown : w0.ownsRow base e size v n xs) (hb : base ≤ w0.heap.size)
    (hbytes : (n + m) * bytes ≤ 140737488355328) (hmax : n + m ≤ 9223372036854775807)
    (h : ∀ v' w', w'.ownsRow base e size v' (n + m) (xs ++ cs.toList) → Below base w0 w' → wpList P ops Q rest (a.put o.dst v') w') :
    wpList P ops Q (o :: rest) a (w0.alloc (.cells cs e)) := by
  subst hg
  obtain ⟨i, hi, hz, hsi, hby⟩ := info_parts hinfo
  refine wpList_append_own _ hgd s x t ho base e i z size bytes ht hi hz hsi hby hzs hsz v n xs hs (hown.alloc _) ⟨w0.heap.size, 0, none⟩ m m cs.toList hx (by simpa using hcs)
    (World.news_of_block (cs := cs) (t := e) (fr := (0, 0)) (heap_alloc_new w0 _)) h1 (by simpa [maxLen] using hmax) hbytes (by simp; omega) ?_
  intro v' w' hown' hg _
  exact h v' w' hown' (((Below.refl base w0).alloc hb _).trans (grown_below hg (fun k hk => (hown.lt k hk).1) (by simp; omega)))

theorem rsumT_any (s : ByteArray) (u : World) (hs : s.size ≤ 1000000) :
    Calls Tryd.prog 25 #[.string s] u fun e w' => e = .returned (.string (mkB (Dg.sumL s.data.toList))) ∧ u = w' := rsum_any s u hs
set_option maxHeartbeats 1000000 in
theorem rchain_any (t : ByteArray) (k : Nat) (x : Int) (w : World) (hx : x = (k : Int)) (hk : k ≤ 1000) (hs : t.size ≤ 1000000) :
    Calls Tryd.prog 35 #[.string t, .int .i64 x] w fun e w' => e = .returned (.string (mkB (Sl.chainF k t.data.toList))) ∧ w = w' := by
  subst hx
  go_enter Tryd.func35, Tryd.ntmps35
  go_wp2_with fail
  go_loop [0, 5] (fun u i => ∃ (j : Nat) (s : ByteArray), j ≤ k ∧ i = .int .i64 j ∧ u = .string s ∧ s.size ≤ 1000000 ∧ Hid (Sl.chainF (k - j) s.data.toList = Sl.chainF k t.data.toList)) (fun _ i => k - (intOf i).toNat)
  case atStart => exact ⟨0, t, Nat.zero_le _, rfl, rfl, hs, Lib.hid rfl⟩
  case round =>
    obtain ⟨j, s, hj, rfl, rfl, hss, hch⟩ := hrel
    by_cases hlt : j < k
    · have d1 : decide ((j : Int) < (k : Int)) = true := by simp; omega
      have CR := Lib.hid (chain_rest hlt hch.out)
      have z : (mkB (Dg.sumL s.data.toList)).size ≤ 1000000 := by rw [mkB_size, isD_len (Dg.sumL_isD _)]; decide
      go_wp2_with fail
      refine (rsumT_any s _ hss).mono ?_
      rintro e w1 ⟨rfl, rfl⟩
      go_wp2_with fail
      go_round
      case rel => exact ⟨j + 1, _, hlt, by go_num, rfl, z, Lib.hid (by rw [mkB_list]; exact CR.out)⟩
      case measure => simp [intOf]; omega
    · have hjk : j = k := by omega
      subst hjk
      have d1 : decide ((j : Int) < (j : Int)) = false := by simp
      have E : Hid (s = mkB (Sl.chainF j t.data.toList)) := Lib.hid (by rw [← hch.out, Nat.sub_self]; exact (mkB_of s).symm)
      go_wp2_with fail
      go_ret
      exact ⟨ret_str E.out, rfl⟩
theorem rlistT_any (A : Option Addr) (n c : Nat) (L : List (List UInt8)) (w : World) (hn : n = L.length) (hlen : L.length ≤ 30) (hs : ∀ t ∈ L, t.length ≤ 300) (h : Rd w A (sv L)) :
    Calls Tryd.prog 44 #[.slice A n c] w fun e w' => e = .returned (.string (mkB (Dg.sumL (Dg.joined L)))) ∧ Below w.heap.size w w' := by
  have := rlist_any A n c (mkL L) w (by rw [mkL_len]; exact hn) (by rw [mkL_len]; exact hlen) (fun s hs' => by
    obtain ⟨t, ht', rfl⟩ := List.mem_map.1 hs'
    rw [mkB_size]; exact hs t ht') h
  rw [bys_mkL] at this
  exact this
theorem rjoinT_any (A : Option Addr) (n c : Nat) (L : List (List UInt8)) (w : World) (hn : n = L.length) (hlen : L.length ≤ 30) (hs : ∀ t ∈ L, t.length ≤ 300) (h : Rd w A (sv L)) :
    Calls Tryd.prog 47 #[.slice A n c] w fun e w' => e = .returned (.string (mkB (Dg.joined L))) ∧ Below w.heap.size w w' := by
  have := joined_any A n c (mkL L) w (by rw [mkL_len]; exact hn) (by rw [mkL_len]; exact hlen) (fun s hs' => by
    obtain ⟨t, ht', rfl⟩ := List.mem_map.1 hs'
    rw [mkB_size]; exact hs t ht') h
  rw [bys_mkL] at this
  exact this
theorem three_300 {a b c : List UInt8} (ha : a.length ≤ 300) (hb : b.length ≤ 300) (hc : c.length ≤ 300) : ∀ t ∈ [a, b, c], t.length ≤ 300 := by
  intro t ht
  simp only [List.mem_cons, List.not_mem_nil, or_false] at ht
  rcases ht with h | h | h
  · rw [h]; exact ha
  · rw [h]; exact hb
  · rw [h]; exact hc
set_option maxHeartbeats 1000000 in
theorem rstart_any (s : ByteArray) (i k : Nat) (w : World) (hs : s.size ≤ 300) (hi : i < 10000) (hk : k < 10000) :
    Calls Tryd.prog 36 #[.string s, .int .i64 i, .int .i64 k] w fun e w' => e = .returned (.string (mkB (Sl.start s.data.toList i k))) ∧ Below w.heap.size w w' := by
  have sl := Lib.hid (start_list s i k)
  have zs : s.data.toList.length ≤ 300 := by rw [← Lib.size_eq]; exact hs
  have hb3 := Lib.hid ((Below.refl w.heap.size w).alloc (Nat.le_refl _) (.cells #[.string s, .string ⟨(Dg.dec i).toArray⟩, .string ⟨(Dg.dec k).toArray⟩] 9))
  go_enter Tryd.func36, Tryd.ntmps36
  go_wp2_with fail
  refine (rdecimal_any i w (by omega)).mono ?_
  rintro e w1 ⟨rfl, rfl⟩
  go_wp2_with fail
  refine (rdecimal_any k w (by omega)).mono ?_
  rintro e w2 ⟨rfl, rfl⟩
  go_wp2_with fail
  refine (rlistT_any _ 3 3 [s.data.toList, Dg.dec i, Dg.dec k] _ rfl (by show 3 ≤ 30; decide) (three_300 zs (dec_len4 hi) (dec_len4 hk)) (by rw [sl.out]; exact Rd.of_row (heap_alloc_new w _) (List.prefix_refl _))).mono ?_
  rintro e w3 ⟨rfl, hb⟩
  have B4 := Lib.hid (hb3.out.trans (hb.mono hb3.out.size)); clear hb
  go_wp2_with fail
  go_ret
  exact ⟨rfl, B4.out⟩
theorem rnode_core (a b : ByteArray) (w : World) (ha : a.size ≤ 300) (hb : b.size ≤ 300) :
    Calls Tryd.prog 44 #[.slice (some ⟨w.heap.size, 0, none⟩) 3 3] (w.alloc (.cells #[.string ⟨#[110, 111, 100, 101]⟩, .string a, .string b] 9)) fun e w' => e = .returned (.string (mkB (Dg.sumL (Sl.nodeT a.data.toList b.data.toList)))) ∧ Below w.heap.size w w' := by
  have hb3 : Below w.heap.size w (w.alloc (.cells #[.string ⟨#[110, 111, 100, 101]⟩, .string a, .string b] 9)) := (Below.refl _ _).alloc (Nat.le_refl _) _
  refine (rlistT_any _ 3 3 [Sl.nodeB, a.data.toList, b.data.toList] _ rfl (by show 3 ≤ 30; decide) (three_300 (by decide) (by rw [← Lib.size_eq]; exact ha) (by rw [← Lib.size_eq]; exact hb)) (by rw [node_list]; exact Rd.of_row (heap_alloc_new w _) (List.prefix_refl _))).mono ?_
  rintro e w3 ⟨rfl, h3⟩
  exact ⟨rfl, hb3.trans (h3.mono hb3.size)⟩
theorem rnodeJ_core (a b : ByteArray) (w : World) (ha : a.size ≤ 300) (hb : b.size ≤ 300) :
    Calls Tryd.prog 47 #[.slice (some ⟨w.heap.size, 0, none⟩) 3 3] (w.alloc (.cells #[.string ⟨#[110, 111, 100, 101]⟩, .string a, .string b] 9)) fun e w' => e = .returned (.string (mkB (Sl.nodeT a.data.toList b.data.toList))) ∧ Below w.heap.size w w' := by
  have hb3 : Below w.heap.size w (w.alloc (.cells #[.string ⟨#[110, 111, 100, 101]⟩, .string a, .string b] 9)) := (Below.refl _ _).alloc (Nat.le_refl _) _
  refine (rjoinT_any _ 3 3 [Sl.nodeB, a.data.toList, b.data.toList] _ rfl (by show 3 ≤ 30; decide) (three_300 (by decide) (by rw [← Lib.size_eq]; exact ha) (by rw [← Lib.size_eq]; exact hb)) (by rw [node_list]; exact Rd.of_row (heap_alloc_new w _) (List.prefix_refl _))).mono ?_
  rintro e w3 ⟨rfl, h3⟩
  exact ⟨rfl, hb3.trans (h3.mono hb3.size)⟩
set_option maxHeartbeats 1000000 in
theorem rparent_any (a b : ByteArray) (back : Bool) (w : World) (ha : a.size ≤ 300) (hb : b.size ≤ 300) :
    Calls Tryd.prog 45 #[.string a, .string b, .bool back] w fun e w' => e = .returned (.string (mkB (Dg.sumL (pairB a.data.toList b.data.toList back)))) ∧ Below w.heap.size w w' := by
  cases back with
  | false =>
    go_enter Tryd.func45, Tryd.ntmps45
    go_wp2_with fail
    refine (rnode_core a b w ha hb).mono ?_
    rintro e w3 ⟨rfl, hb3⟩
    have B3 := Lib.hid hb3; clear hb3
    go_wp2_with fail
    go_ret
    exact ⟨rfl, B3.out⟩
  | true =>
    go_enter Tryd.func45, Tryd.ntmps45
    go_wp2_with fail
    refine (rnode_core b a w hb ha).mono ?_
    rintro e w3 ⟨rfl, hb3⟩
    have B3 := Lib.hid hb3; clear hb3
    go_wp2_with fail
    go_ret
    exact ⟨rfl, B3.out⟩
set_option maxHeartbeats 1000000 in
theorem rnode_any (a b : ByteArray) (w : World) (ha : a.size ≤ 300) (hb : b.size ≤ 300) :
    Calls Tryd.prog 50 #[.string a, .string b] w fun e w' => e = .returned (.string (mkB (Sl.nodeT a.data.toList b.data.toList))) ∧ Below w.heap.size w w' := by
  go_enter Tryd.func50, Tryd.ntmps50
  go_wp2_with fail
  refine (rnodeJ_core a b w ha hb).mono ?_
  rintro e w3 ⟨rfl, hb3⟩
  have B3 := Lib.hid hb3; clear hb3
  go_wp2_with fail
  go_ret
  exact ⟨rfl, B3.out⟩
set_option maxHeartbeats 400000 in
theorem rpower_any (n : Int) (h : Nat) (w : World) (hn : n = (h : Int)) (hh : h ≤ 30) :
    Calls Tryd.prog 33 #[.int .i64 n] w fun e w' => e = .returned (.int .i64 ((2 ^ h : Nat) : Int)) ∧ w = w' := by
  subst hn
  go_enter Tryd.func33, Tryd.ntmps33
  go_wp2_with fail
  go_loop [3, 4] (fun o i => ∃ j q : Nat, j ≤ h ∧ i = .int .i64 j ∧ o = .int .i64 q ∧ q ≤ 1073741824 ∧ Hid (q = 2 ^ j)) (fun _ i => h - (intOf i).toNat)
  case atStart => exact ⟨0, 1, by omega, rfl, rfl, by omega, Lib.hid rfl⟩
  case round =>
    obtain ⟨j, q, hj, rfl, rfl, hq, hp⟩ := hrel
    by_cases hlt : j < h
    · have d1 : (j : Int) < (h : Int) := by omega
      have hq2 : 2 * q ≤ 1073741824 := by
        rw [hp.out]
        have := Nat.pow_le_pow_right (n := 2) (by decide) (show j + 1 ≤ 30 by omega)
        rw [Nat.pow_succ] at this; omega
      have HP : Hid (2 * q = 2 ^ (j + 1)) := Lib.hid (by rw [hp.out, Nat.pow_succ, Nat.mul_comm])
      have w1 : IntKind.i64.wrap (2 * (q : Int)) = ((2 * q : Nat) : Int) := IntWalk.i64_in _ (by omega)
      clear hp
      go_wp2_with fail
      go_round
      case rel => exact ⟨j + 1, 2 * q, hlt, by go_num, by go_num, hq2, HP⟩
      case measure => simp [intOf]; omega
    · have d1 : ¬ (j : Int) < (h : Int) := by omega
      have hjh : j = h := by omega
      subst hjh
      have HE : Hid ((q : Int) = ((2 ^ j : Nat) : Int)) := Lib.hid (by rw [hp.out])
      clear hp
      go_wp2_with fail
      go_ret
      exact ⟨ret_int HE.out, rfl⟩
theorem chained_step (t : List UInt8) (j : Nat) : sv (Sl.chained (j + 1) t) = sv (Sl.chained j t) ++ [.string (mkB (Sl.chainF (j + 1) t))] := by
  rw [← sv_one, ← sv_app]
  congr 1
  unfold Sl.chained
  rw [List.range_succ (n := j + 1), List.map_append]; rfl
theorem chained_len (t : List UInt8) (j : Nat) : (Sl.chained j t).length = j + 1 := by simp [Sl.chained]
set_option maxHeartbeats 1000000 in
theorem rchained_any (t : ByteArray) (k : Nat) (x : Int) (w : World) (hx : x = (k : Int)) (hk : k ≤ 1000) (hs : t.size ≤ 1000000) :
    Calls Tryd.prog 49 #[.string t, .int .i64 x] w (OwnP w (Sl.chained k t.data.toList)) := by
  subst hx
  obtain ⟨B, hB⟩ : ∃ B, w.heap.size = B := ⟨_, rfl⟩
  have HW : Hid (w.heap.size = B) := Lib.hid hB
  have O0 : Hid ((w.alloc (.cells #[.string t] 9)).ownsRow B 9 1 (.slice (some ⟨B, 0, none⟩) 1 1) 1 (sv (Sl.chained 0 t.data.toList))) := Lib.hid (by
    have := own_new1 w 9 (.string t)
    rw [hB] at this
    rw [show sv (Sl.chained 0 t.data.toList) = [Value.string t] by simp [sv, mkL, Sl.chained, Sl.chainF, mkB_of]]
    exact this)
  have L0 : Hid (Below B w (w.alloc (.cells #[.string t] 9))) := Lib.hid ((Below.refl _ _).alloc (by rw [hB]; exact Nat.le_refl _) _)
  have T0 : Hid (t = mkB (Sl.chainF 0 t.data.toList)) := Lib.hid (mkB_of t).symm
  go_enter Tryd.func49, Tryd.ntmps49
  go_wp2_with fail
  clear hB
  go_loopw [0, 5, 6] (fun u v i wr => ∃ (j : Nat) (s : ByteArray), j ≤ k ∧ i = .int .i64 j ∧ u = .string s ∧ s.size ≤ 1000000 ∧ Hid (s = mkB (Sl.chainF j t.data.toList)) ∧ Hid (wr.ownsRow B 9 1 v (j + 1) (sv (Sl.chained j t.data.toList))) ∧ Hid (Below B w wr)) (fun _ _ i _ => k - (intOf i).toNat)
  case atStart => exact ⟨0, t, Nat.zero_le _, rfl, rfl, hs, T0, O0, L0⟩
  case round =>
    clear T0 O0 L0
    obtain ⟨j, s, hj, rfl, rfl, hss, hse, hown, hbl⟩ := hrel
    obtain ⟨A5, c5, rfl, -, -⟩ := own_form hown.out
    have hsz : B ≤ wr.heap.size := by have := hbl.out.size; rw [HW.out] at this; exact this
    by_cases hlt : j < k
    · have d1 : decide ((j : Int) < (k : Int)) = true := by simp; omega
      have z : (mkB (Dg.sumL s.data.toList)).size ≤ 1000000 := by rw [mkB_size, isD_len (Dg.sumL_isD _)]; decide
      have ES : Hid (Dg.sumL s.data.toList = Sl.chainF (j + 1) t.data.toList) := Lib.hid (by rw [hse.out, mkB_list, Sl.chainF_succ])
      have CS := Lib.hid (chained_step t.data.toList j)
      rw [← ES.out] at CS
      have RS := Lib.hid (rsumT_any s wr hss)
      generalize Dg.sumL s.data.toList = y at *
      clear hse
      go_wp2_with fail
      refine RS.out.mono ?_
      rintro e w1 ⟨rfl, rfl⟩
      go_wp2_with (at_builtin; refine wpList_app1 rfl (.tmp 16) (.tmp 18) 22 rfl Tryd.underlying22 info_str rfl (by decide) B (.slice A5 _ c5) _ _ wr #[.string (mkB y)] rfl ?c1 rfl rfl rfl hown.out hsz ?c2 ?c3 ?_)
      case c1 => simp [Value.oneCell']
      case c2 => omega
      case c3 => omega
      intro v2 w3 hown2 hb3
      have HO2 : Hid (w3.ownsRow B 9 1 v2 (j + 1 + 1) (sv (Sl.chained (j + 1) t.data.toList))) := Lib.hid (by rw [CS.out]; exact hown2)
      have HB3 : Hid (Below B w w3) := Lib.hid (hbl.out.trans hb3)
      clear hown2 hb3
      go_wp2_with fail
      exact ⟨⟨j + 1, _, hlt, by go_num, rfl, z, Lib.hid (by rw [ES.out]), HO2, HB3⟩, by simp [intOf]; omega⟩
    · have hjk : j = k := by omega
      subst hjk
      have d1 : decide ((j : Int) < (j : Int)) = false := by simp
      go_wp2_with fail
      go_ret
      refine ⟨A5, c5, ?_, ?_, ?_⟩
      · (rw [chained_len]) <;> rfl
      · rw [chained_len, HW.out]; exact hown.out
      · rw [HW.out]; exact hbl.out
end Go.Proofs.YthceonkdmcidcaaDoor
