/- REFERENCE: entries, find, without. -/
import Derived.Test.YtfhgidbmeifflaaNX
set_option linter.unusedSimpArgs false
set_option linter.unusedVariables false
namespace Go.Proofs.Ytfhgidbmeifflaa
open Go.RowKit Go.Maps Go.ChangeMaps Go.MapKept Go.WideShapes Go.WideMaps

structure Ent where
  key : Tx
  val : Tx
  num : Nat
def entCells (e : Ent) : List Value := [.string (mkB e.key), .string (mkB e.val), .int .i64 (e.num : Int)]
def entsC (l : List Ent) : List Value := l.flatMap entCells
theorem entsC_len (l : List Ent) : (entsC l).length = l.length * 3 := flat_len entCells 3 (fun _ => rfl) l
theorem entsC_app (a b : List Ent) : entsC (a ++ b) = entsC a ++ entsC b := by unfold entsC; rw [List.flatMap_append]
theorem ents_at {w : World} {A : Option Addr} {l : List Ent} (h : Rd w A (entsC l)) {k : Nat} (hk : k < l.length) :
    ∃ b off, A = some ⟨b, off, none⟩ ∧ b < w.heap.size ∧ w.cell? ⟨b, off + k * 3, none⟩ = some (.string (mkB l[k].key)) ∧ w.cell? ⟨b, off + k * 3 + 1, none⟩ = some (.string (mkB l[k].val)) ∧ w.cell? ⟨b, off + k * 3 + 2, none⟩ = some (.int .i64 (l[k].num : Int)) := by
  obtain ⟨b, off, e, hb, hc⟩ := h (by rw [entsC_len]; omega)
  have g : ∀ f u, (entCells l[k])[f]? = some u → w.cell? ⟨b, off + (k * 3 + f), none⟩ = some u := fun f u hu => hc (k * 3 + f) u (flat_get entCells 3 (fun _ => rfl) hk hu)
  refine ⟨b, off, e, hb, g 0 _ rfl, ?_, ?_⟩
  · have := g 1 _ rfl; rwa [← Nat.add_assoc] at this
  · have := g 2 _ rfl; rwa [← Nat.add_assoc] at this
theorem info_ent : (Try.prog.info? 68).map (fun i => (i.zero, i.size, i.bytes)) = some (some (.agg #[.string .empty, .string .empty, .int .i64 0]), 3, 40) := by kernel_rfl
/-- where a key lies first -/
def findI (l : List Ent) (key : Tx) : Nat := l.findIdx fun e => decide (e.key = key)
def findR (l : List Ent) (key : Tx) : Int := if findI l key < l.length then (findI l key : Int) else -1
theorem findI_lt {l : List Ent} {key : Tx} {k : Nat} (hk : k < l.length) (he : l[k].key = key) (hb : ∀ i (hi : i < k), (l[i]'(by omega)).key ≠ key) : findI l key = k := by
  unfold findI
  rw [List.findIdx_eq hk]
  exact ⟨by simpa using he, fun i hi => by simpa using hb i hi⟩
theorem findI_none {l : List Ent} {key : Tx} (hb : ∀ i (hi : i < l.length), l[i].key ≠ key) : findI l key = l.length := by
  unfold findI
  rw [List.findIdx_eq_length]
  intro x hx
  obtain ⟨i, hi, rfl⟩ := List.mem_iff_getElem.1 hx
  simpa using hb i hi
set_option maxHeartbeats 1000000 in
theorem find_any (A : Option Addr) (n c : Nat) (l : List Ent) (key : Tx) (w : World) (hn : n = l.length) (hl : n ≤ 1000000) (h : Rd w A (entsC l)) :
    Calls Try.prog 31 #[.slice A n c, .string (mkB key)] w fun e w' => e = .returned (.int .i64 (findR l key)) ∧ Below w.heap.size w w' := by
  have H := Lib.hid h
  have HN := Lib.hid hn
  clear h hn
  have tk := mkB_tl key
  go_enter Try.func31, Try.ntmps31
  go_wp2_with fail
  go_loopw [5] (fun s5 wr => ∃ k : Nat, k ≤ n ∧ s5 = .int .i64 (k : Int) ∧ Hid (∀ i (hi : i < l.length), i < k → l[i].key ≠ key) ∧ Hid (Below w.heap.size w wr)) (fun i _ => n - (intOf i).toNat)
  case atStart => exact ⟨0, Nat.zero_le _, rfl, Lib.hid (fun i _ h => absurd h (Nat.not_lt_zero _)), Lib.hid (Below.refl _ _)⟩
  case round =>
    obtain ⟨k, hk, rfl, AL, BL⟩ := hrel
    by_cases hlt : k < n
    · have hkl : k < l.length := by have := HN.out; omega
      have d1 : (k : Int) < (n : Int) := by omega
      have d2 : (0 : Int) ≤ (k : Int) := by omega
      obtain ⟨b, off, rfl, hb, c0, c1, c2⟩ := ents_at (H.out.below BL.out) hkl
      have FD : Hid (l[k].key = key → findR l key = (k : Int)) := Lib.hid (fun he => by
        have := findI_lt hkl he (fun i hi => AL.out i (by omega) hi)
        unfold findR
        rw [this, if_pos hkl])
      have ALn : Hid (l[k].key ≠ key → ∀ i (hi : i < l.length), i < k + 1 → l[i].key ≠ key) := Lib.hid (fun hne i hi hik => by
        rcases Nat.lt_succ_iff_lt_or_eq.1 hik with h1 | h1
        · exact AL.out i hi h1
        · subst h1; exact hne)
      have t1 := mkB_tl l[k].key
      generalize l[k].key = kk at *
      clear c1 c2
      by_cases he : kk = key
      · have e1 : (kk == key) = true := by rw [he]; simp
        have FD2 := Lib.hid (FD.out he)
        clear FD ALn he
        go_wp2_with fail
        go_ret
        exact ⟨by rw [FD2.out]; rfl, BL.out⟩
      · have e1 : (kk == key) = false := by simpa using he
        have A2 := Lib.hid (ALn.out he)
        clear FD ALn he
        go_wp2_with fail
        exact ⟨⟨k + 1, by omega, by go_num, A2, BL⟩, by simp [intOf]; omega⟩
    · have d1 : ¬ (k : Int) < (n : Int) := by omega
      have FN : Hid (findR l key = -1) := Lib.hid (by
        have := findI_none (l := l) (key := key) (fun i hi => AL.out i hi (by have := HN.out; omega))
        unfold findR
        rw [this, if_neg (Nat.lt_irrefl _)])
      go_wp2_with fail
      go_ret
      exact ⟨by rw [FN.out]; rfl, BL.out⟩
/-- a list of entries, owned -/
def withoutL (l : List Ent) (key : Tx) : List Ent := l.filter fun e => decide (e.key ≠ key)
theorem withoutL_take (l : List Ent) (key : Tx) {k : Nat} (h : k < l.length) : withoutL (l.take (k + 1)) key = withoutL (l.take k) key ++ (if l[k].key = key then [] else [l[k]]) := by
  unfold withoutL
  rw [List.take_succ_eq_append_getElem h, List.filter_append]
  congr 1
  by_cases e : l[k].key = key <;> simp [e]
/-- append of one struct that has just been laid in a block of its own -/
theorem wpList_appE {P : Program} {ops : Array Oper} {rest : List Oper} {o : Oper} {a : Act} {Q : Exit → Act → World → Prop} {w0 : World} (hgd : o.guard = none) (s x : Operand) (t : TypeId)
    (ho : o.op = .call { callee := .builtin .append, args := #[s, x], argTypes := #[t, t] }) {e : TypeId} {z : Value} {size bytes : Nat}
    (ht : P.underlying t = some (.slice e)) (hinfo : (P.info? e).map (fun i => (i.zero, i.size, i.bytes)) = some (some z, size, bytes)) (hzs : z.cells.size = size) (hsz : 0 < size)
    (base : Nat) (v : Value) (n : Nat) (xs : List Value) (cs : Array Value) (hcs : cs.size = 1 * size) (h1 : ∀ u ∈ cs.toList, u.oneCell' = true)
    (hs : a.eval s = v) {g : Nat} (hx : a.eval x = .slice (some ⟨g, 0, none⟩) 1 1) (hg : w0.heap.size = g) (hown : w0.ownsRow base e size v n xs) (hb : base ≤ w0.heap.size)
    (hbytes : (n + 1) * bytes ≤ 140737488355328) (hmax : n + 1 ≤ 9223372036854775807)
    (h : ∀ g' c' w', w'.ownsRow base e size (.slice (some ⟨g', 0, none⟩) (n + 1) c') (n + 1) (xs ++ cs.toList) → w0.grownBy w' v.ownBlock → (v.ownBlock = some g' ∨ w0.heap.size ≤ g') → Below base w0 w' → wpList P ops Q rest (a.put o.dst (.slice (some ⟨g', 0, none⟩) (n + 1) c')) w') :
    wpList P ops Q (o :: rest) a (w0.alloc (.cells cs e)) := by
  subst hg
  obtain ⟨i, hi, hz, hsi, hby⟩ := info_parts hinfo
  refine wpList_append_lies (w0.alloc (.cells cs e)) hgd s x t ho base e i z size bytes ht hi hz hsi hby hzs hsz v n xs hs (hown.alloc _) ⟨w0.heap.size, 0, none⟩ 1 1 cs.toList hx (by simpa using hcs)
    (World.news_of_block (cs := cs) (t := e) (fr := (0, 0)) (heap_alloc_new w0 _)) h1 (by omega) (by simpa [maxLen] using hmax) hbytes (by simp; omega) _ rfl ?_
  intro g cap w' hown' hg hgo _
  have hg0 : w0.grownBy w' v.ownBlock := ⟨hg.os, hg.tape, hg.output, Nat.le_trans (by simp) hg.size, fun k hk hne => (hg.block k (by simp; omega) hne).trans (alloc_old _ _ hk)⟩
  exact h g cap w' hown' hg0 (hgo.imp id (fun e => by rw [e]; simp)) (grown_below hg0 (fun k hk => (hown.lt k hk).1) hb)
def WithPost (w : World) (l : List Ent) (e : Ending) (w' : World) : Prop := ∃ v, e = .returned v ∧ w'.ownsRow w.heap.size 68 3 v l.length (entsC l) ∧ Below w.heap.size w w'
set_option maxHeartbeats 2000000 in
set_option maxRecDepth 100000 in
theorem without_any (A : Option Addr) (n c : Nat) (l : List Ent) (key : Tx) (w : World) (hn : n = l.length) (hl : n ≤ 1000000) (h : Rd w A (entsC l)) :
    Calls Try.prog 35 #[.slice A n c, .string (mkB key)] w (WithPost w (withoutL l key)) := by
  have H := Lib.hid h
  have HN := Lib.hid hn
  clear h hn
  have tk := mkB_tl key
  obtain ⟨B, hB⟩ : ∃ B, B = w.heap.size := ⟨_, rfl⟩
  have HB := Lib.hid hB
  have ST : Hid (w.ownsRow B 68 3 (.slice none 0 0) (withoutL (l.take 0) key).length (entsC (withoutL (l.take 0) key))) := Lib.hid (World.ownsRow_nil _ _ _ _)
  have B0 := Lib.hid (show Below B w w from Below.refl _ _)
  clear hB
  go_enter Try.func35, Try.ntmps35
  go_wp2_with fail
  go_loopw [5, 6] (fun s5 s6 wr => ∃ k : Nat, k ≤ n ∧ s6 = .int .i64 (k : Int) ∧ Hid (wr.ownsRow B 68 3 s5 (withoutL (l.take k) key).length (entsC (withoutL (l.take k) key))) ∧ Hid (Below B w wr)) (fun _ i _ => n - (intOf i).toNat)
  case atStart => exact ⟨0, Nat.zero_le _, rfl, ST, B0⟩
  case round =>
    clear ST B0
    obtain ⟨k, hk, rfl, OW, BL⟩ := hrel
    by_cases hlt : k < n
    · have hkl : k < l.length := by have := HN.out; omega
      have d1 : (k : Int) < (n : Int) := by omega
      have d2 : (0 : Int) ≤ (k : Int) := by omega
      obtain ⟨b, off, rfl, hb, c0, c1, c2⟩ := ents_at (H.out.below (by rw [← HB.out]; exact BL.out)) hkl
      have WT := Lib.hid (withoutL_take l key hkl)
      have LE : (withoutL (l.take k) key).length ≤ 1000000 := Nat.le_trans (List.length_filter_le _ _) (by rw [List.length_take]; omega)
      have EC : Hid (entsC [l[k]] = [.string (mkB l[k].key), .string (mkB l[k].val), .int .i64 (l[k].num : Int)]) := Lib.hid rfl
      have t1 := mkB_tl l[k].key
      have bz : B ≤ wr.heap.size := Nat.le_trans (by rw [HB.out]; exact Nat.le_refl _) BL.out.size
      generalize withoutL (l.take k) key = O at *
      generalize hlk : l[k] = ek at *
      generalize ek.key = kk at *
      generalize ek.val = kv at *
      generalize ek.num = kn at *
      by_cases he : kk = key
      · have e1 : (kk == key) = true := by rw [he]; simp
        have W2 := WT.out
        rw [if_pos he, List.append_nil] at W2
        have W3 := Lib.hid W2
        clear WT he W2 hlk
        go_wp2_with fail
        exact ⟨⟨k + 1, by omega, by go_num, by rw [W3.out]; exact OW, BL⟩, by simp [intOf]; omega⟩
      · have e1 : (kk == key) = false := by simpa using he
        have W2 := WT.out
        rw [if_neg he] at W2
        have W3 := Lib.hid W2
        clear WT he W2 hlk
        go_wp2_with (at_builtin; refine wpList_appE rfl (.tmp 20) (.tmp 25) 54 rfl Try.underlying54 info_ent rfl (by decide) B _ O.length (entsC O) _ rfl (by intro y hy; simp at hy; rcases hy with rfl | rfl | rfl <;> rfl) rfl rfl rfl OW.out bz (by omega) (by omega) ?_; intro g7 c7 w7 ho7 hg7 hl7 hb7)
        refine ⟨⟨k + 1, by omega, by go_num, ?_, Lib.hid (BL.out.trans hb7)⟩, by simp [intOf]; omega⟩
        rw [W3.out, List.length_append, entsC_app, EC.out]
        exact Lib.hid ho7
    · have d1 : ¬ (k : Int) < (n : Int) := by omega
      have hkl : l.length ≤ k := by have := HN.out; omega
      rw [List.take_of_length_le hkl] at OW
      go_wp2_with fail
      go_ret
      exact ⟨_, rfl, by rw [← HB.out]; exact OW.out, by rw [← HB.out]; exact BL.out⟩
end Go.Proofs.Ytfhgidbmeifflaa
