/- WALK: head. -/
import Derived.Test.YtfhgidbmeifflaaNU
set_option linter.unusedSimpArgs false
set_option linter.unusedVariables false
namespace Go.Proofs.Ytfhgidbmeifflaa
open Go.RowKit Go.Maps Go.ChangeMaps Go.MapKept Go.WideShapes Go.WideMaps

theorem ShPost.base {u w' : World} {p B : Nat} {F : Nat → Prop} {s : Sh} (h : ShPost u p F s w') (hF : ∀ g, F g → B ≤ g) (hB : B ≤ u.heap.size) : ∃ F', ShAt w' p F' s ∧ (∀ g, F' g → B ≤ g) ∧ Below B u w' := by
  obtain ⟨F', h1, h2, h3⟩ := h
  exact ⟨F', h1, fun g hg => (h2 g hg).elim (hF g) (fun e => Nat.le_trans hB e), h3.below hB hF⟩
/-- a map of one pair, made -/
theorem put_one (w : World) (k v : Tx) (hk : k.length ≤ 1000000) :
    ∃ u, (Instr.mapUpdate 47 (.map (some w.heap.size)) (.string (mkB k)) (.string (mkB v))).run Try.prog (w.alloc (.map #[] 0)) = .ok () u ∧ Below w.heap.size w u ∧ w.heap.size < u.heap.size ∧ MapAt u Try.prog 9 w.heap.size (putM [(k, v)]) 1 := by
  obtain ⟨u, hup, m1, hg1⟩ := (MapAt.made w Try.prog 9).upd strK Try.underlying47 (by unfold maxLen; omega) (key_of k hk) (.string (mkB v))
  rw [putM_one] at m1
  exact ⟨u, hup, ⟨hg1.os, hg1.tape, hg1.output, Nat.le_trans (by simp) hg1.size, fun k hk => (hg1.block k (by simp; omega) (fun e => by injection e with e; omega)).trans (alloc_old _ _ hk)⟩, m1.lt, m1⟩
theorem putAt_one {u : World} {F : Nat → Prop} {k v : Tx} {bp : Nat} (m : MapAt u Try.prog 9 bp (putM [(k, v)]) 1) (hF : ¬ F bp) (hk : k.length ≤ 1000000) (hv : v.length ≤ 1000000) : PutAt u F [(k, v)] bp [] none :=
  ⟨m, hF, Rd.nil_ _ _, fun b off e => (by cases e), by simp, by simp, by simp, fun q hq => by rw [List.mem_singleton.1 hq]; exact ⟨hk, hv⟩, fun t ht => by cases ht⟩
def hs1 : Sh := (writeF newS [([97], [49])] []).1
theorem hs1_eq : writeF newS [([97], [49])] [] = (hs1, 1, 0) := rfl
def hs2 : Sh := (openF hs1).1
theorem hs2_eq : openF hs1 = (hs2, 1, 0) := rfl
def hs3 : Sh := (writeF hs2 [([97], [50])] []).1
theorem hs3_eq : writeF hs2 [([97], [50])] [] = (hs3, 2, 0) := rfl
def hs4 : Sh := (closeF hs3 1).1
theorem hs4_eq : closeF hs3 1 = (hs4, 0) := rfl
def hs5 : Sh := { hs4 with keys := fun t => if t = [97] then [⟨2, [50], false, false⟩] else [] }
def hs6 : Sh := (openF hs5).1
theorem hs6_eq : openF hs5 = (hs6, 2, 0) := rfl
def hs7 : Sh := (forgetF hs6 [97]).1
theorem hs7_eq : forgetF hs6 [97] = (hs7, 0) := rfl
theorem hs3_read : readF hs3 1 [97] = ([49], 0) := rfl
theorem hs7_read2 : readF hs7 2 [97] = ([], 24) := rfl
theorem hs7_read1 : readF hs7 1 [97] = ([], 20) := rfl
theorem hs7_write : writeF hs7 [([97], [51])] [[97]] = (hs7, 0, 1) := rfl
theorem hs7_forget : forgetF hs7 [97] = (hs7, 11) := rfl
theorem hs3_keys (t : Tx) : hs3.keys t = if t = [97] then [⟨1, [49], false, false⟩, ⟨2, [50], false, false⟩] else [] := by
  by_cases h : t = [97]
  · subst h; rfl
  · rw [if_neg h]
    show putK _ _ _ _ t = _
    unfold putK
    rw [if_neg (by simpa using h)]
    show putK _ _ _ _ t = _
    unfold putK
    rw [if_neg (by simpa using h)]
    rfl
theorem hs3_rd (i c : Nat) (h : hs3.rd i = some c) : i = 1 ∧ c = 1 := by
  have h : setN (fun _ => none) 1 (some 1) i = some c := h
  unfold setN at h
  split at h
  · cases h; exact ⟨by assumption, rfl⟩
  · cases h
theorem hs4_rd (i c : Nat) : ¬ hs4.rd i = some c := fun h => by
  have h : setN (setN (fun _ => none) 1 (some 1)) 1 none i = some c := h
  unfold setN at h
  split at h
  · cases h
  · cases h
theorem one_held {f : Tx → List Sn.Val} {l : List Sn.Val} (h : ∀ t, f t = if t = [97] then l else []) : Sn.HeldIs f (Sn.cnt l) := by
  refine ⟨[[97]], by simp, fun k hk => ?_, ?_⟩
  · rw [h k] at hk
    by_cases e : k = [97]
    · simp [e]
    · rw [if_neg e] at hk; exact absurd rfl hk
  · simp [Sn.sumK, h]
theorem hs3_coll {ts : List Nat} (h : TimesOf hs3 ts) : collectF hs3 ts = hs3 := by
  have hm : ∀ c, c ∈ ts ↔ c ∈ [2, 1] := fun c => ⟨fun hc => by
    rcases h.sub c hc with e | ⟨i, e⟩
    · have : c = 2 := e
      simp [this]
    · simp [(hs3_rd i c e).2], fun hc => by
    simp at hc
    rcases hc with rfl | rfl
    · exact h.ck
    · exact h.all 1 1 rfl⟩
  unfold collectF
  have : (fun t => Sn.colls (hs3.keys t) ts) = hs3.keys := by
    funext t
    rw [colls_same hm, hs3_keys]
    split
    · rfl
    · rfl
  rw [this]
theorem hs4_coll {ts : List Nat} (h : TimesOf hs4 ts) : collectF hs4 ts = hs5 := by
  have hm : ∀ c, c ∈ ts ↔ c ∈ [2] := fun c => ⟨fun hc => by
    rcases h.sub c hc with e | ⟨i, e⟩
    · have : c = 2 := e
      simp [this]
    · exact absurd e (hs4_rd i c), fun hc => by
    simp at hc
    subst hc
    exact h.ck⟩
  unfold collectF hs5
  have : (fun t => Sn.colls (hs4.keys t) ts) = fun t => if t = [97] then [⟨2, [50], false, false⟩] else [] := by
    funext t
    rw [colls_same hm]
    show Sn.colls (hs3.keys t) [2] = _
    rw [hs3_keys]
    split
    · rfl
    · rfl
  rw [this]
theorem hs3_inv : Inv hs3 3 := ((Inv.new.write [([97], [49])] [] (by simp)).open_).write [([97], [50])] [] (by simp)
theorem hs5_inv : Inv hs5 3 := by
  have h := hs3_inv.close 1
  refine ⟨fun t => ?_, fun t v hv => ?_, h.rdc, h.ver, h.clk, h.opn, h.lim, h.nrd⟩
  · show Sn.Ord 0 (if t = [97] then _ else _)
    split
    · exact ⟨Nat.zero_le _, trivial⟩
    · trivial
  · have hv : v ∈ (if t = [97] then [(⟨2, [50], false, false⟩ : Sn.Val)] else []) := hv
    split at hv
    · rw [List.mem_singleton.1 hv]; exact Nat.le_refl _
    · cases hv
theorem hs7_inv : Inv hs7 5 := hs5_inv.open_.forget [97]
theorem hs7_keys (t : Tx) : hs7.keys t = if t = [97] then [⟨2, [], true, true⟩, ⟨3, [], true, false⟩] else [] := by
  show setK hs5.keys [97] _ t = _
  unfold setK
  by_cases h : t = [97]
  · subst h; rfl
  · rw [if_neg h, if_neg h]; exact if_neg h
set_option maxHeartbeats 8000000 in
set_option maxRecDepth 100000 in
theorem head_any (w : World) : Calls Try.prog 9 #[] w fun e w' => e = .returned (.bool true) ∧ Below w.heap.size w w' := by
  have h2 : ∀ u : World, (Instr.makeMap 47 none).run Try.prog u = .ok (.map (some u.heap.size)) (u.alloc (.map #[] 0)) := fun u => run_makeMap _ _
  obtain ⟨B, hB⟩ : ∃ B, B = w.heap.size := ⟨_, rfl⟩
  rw [← hB]
  go_enter Try.func9, Try.ntmps9
  go_wp2_with fail
  refine (new_any w).mono ?_
  rintro e w1 ⟨p, F1, rfl, s1, f1, b1⟩
  rw [← hB] at f1 b1
  obtain ⟨u1, hup1, hu1, hz1, m1⟩ := put_one w1 [97] [49] (by simp)
  have hup1 : (Instr.mapUpdate 47 (.map (some w1.heap.size)) (.string ⟨#[97]⟩) (.string ⟨#[49]⟩)).run Try.prog (w1.alloc (.map #[] 0)) = .ok () u1 := hup1
  have lt1 : ∀ g, F1 g → g < w1.heap.size := fun g hg => by obtain ⟨bm, br, nk, hd, hh⟩ := s1; exact hh.lt g hg
  have c1 := write_any p F1 newS [([97], [49])] w1.heap.size [] none 0 0 u1 rfl newS_inv (s1.below hu1) (putAt_one m1 (fun h => Nat.lt_irrefl _ (lt1 _ h)) (by simp) (by simp))
  rw [hs1_eq] at c1
  have C := Lib.hid c1
  have BB := Lib.hid (b1.trans (hu1.mono (by have := b1.size; omega)))
  have FF := Lib.hid f1
  clear c1 s1 f1 b1 hu1 m1 lt1 hz1
  go_wp2_with fail
  refine C.out.mono ?_
  rintro e w2 ⟨rfl, sp⟩
  obtain ⟨F2, s2, f2, b2⟩ := sp.base (B := B) FF.out (by have := BB.out.size; omega)
  have S2 := Lib.hid s2
  have BB2 := Lib.hid (BB.out.trans b2)
  have FF2 := Lib.hid f2
  clear sp s2 f2 b2 C BB FF hup1
  have BB := BB2
  have FF := FF2
  have S := S2
  clear BB2 FF2 S2
  have c2 := open_any p F2 hs1 w2 ((Inv.new.write [([97], [49])] [] (by simp)).sh (by omega)) (by decide) S.out
  rw [hs2_eq] at c2
  have C := Lib.hid c2
  clear c2 S
  go_wp2_with fail
  refine C.out.mono ?_
  rintro e w3 ⟨rfl, sp⟩
  obtain ⟨F3, s2, f2, b2⟩ := sp.base (B := B) FF.out (by have := BB.out.size; omega)
  have S2 := Lib.hid s2
  have BB2 := Lib.hid (BB.out.trans b2)
  have FF2 := Lib.hid f2
  clear sp s2 f2 b2 C BB FF 
  have BB := BB2
  have FF := FF2
  have S := S2
  clear BB2 FF2 S2
  obtain ⟨u3, hup3, hu3, hz3, m3⟩ := put_one w3 [97] [50] (by simp)
  have hup3 : (Instr.mapUpdate 47 (.map (some w3.heap.size)) (.string ⟨#[97]⟩) (.string ⟨#[50]⟩)).run Try.prog (w3.alloc (.map #[] 0)) = .ok () u3 := hup3
  have lt3 : ∀ g, F3 g → g < w3.heap.size := fun g hg => by obtain ⟨bm, br, nk, hd, hh⟩ := S.out; exact hh.lt g hg
  have c3 := write_any p F3 hs2 [([97], [50])] w3.heap.size [] none 0 0 u3 rfl ((Inv.new.write [([97], [49])] [] (by simp)).open_.sh (by omega)) (S.out.below hu3) (putAt_one m3 (fun h => Nat.lt_irrefl _ (lt3 _ h)) (by simp) (by simp))
  rw [hs3_eq] at c3
  have C := Lib.hid c3
  have BB2 := Lib.hid (BB.out.trans (hu3.mono (by have := BB.out.size; omega)))
  clear c3 hu3 m3 lt3 hz3 S BB
  have BB := BB2
  clear BB2
  go_wp2_with fail
  refine C.out.mono ?_
  rintro e w4 ⟨rfl, sp⟩
  obtain ⟨F4, s2, f2, b2⟩ := sp.base (B := B) FF.out (by have := BB.out.size; omega)
  have S2 := Lib.hid s2
  have BB2 := Lib.hid (BB.out.trans b2)
  have FF2 := Lib.hid f2
  clear sp s2 f2 b2 C BB FF hup3
  have BB := BB2
  have FF := FF2
  have S := S2
  clear BB2 FF2 S2
  have I3 := hs3_inv.sh (by omega)
  have c4 := read_any p F4 hs3 1 ⟨#[97]⟩ w4 I3 S.out (by omega) (by decide)
  unfold ReadSaid at c4
  change Calls _ _ _ _ (fun e w' => e = .returned (.tuple #[.string (mkB (readF hs3 1 [97]).1), .int .i64 ((readF hs3 1 [97]).2 : Int)]) ∧ _) at c4
  rw [hs3_read] at c4
  change Calls _ _ _ _ (fun e w' => e = .returned (.tuple #[.string ⟨#[49]⟩, .int .i64 0]) ∧ _) at c4
  have C := Lib.hid c4
  clear c4
  go_wp2_with fail
  refine C.out.mono ?_
  rintro e w5 ⟨rfl, b5⟩
  have S5 := Lib.hid (S.out.below b5)
  have BB5 := Lib.hid (BB.out.trans (b5.mono (by have := BB.out.size; omega)))
  clear b5 S BB C
  have C := Lib.hid (held_any p F4 hs3 w5 I3 S5.out)
  go_wp2_with fail
  refine C.out.mono ?_
  rintro e w6 ⟨n, rfl, hh, -, b6⟩
  obtain rfl : n = 2 := Sn.held_unique hh (one_held hs3_keys)
  have S6 := Lib.hid (S5.out.below b6)
  have BB := Lib.hid (BB5.out.trans (b6.mono (by have := BB5.out.size; omega)))
  clear b6 S5 BB5 C hh
  have C := Lib.hid (collect_any p F4 hs3 w6 I3 (by decide) S6.out)
  go_wp2_with fail
  refine C.out.mono ?_
  rintro e w7 ⟨ts, n0, n1, ht, hh0, hh1, rfl, sp⟩
  rw [hs3_coll ht] at hh1 sp
  obtain rfl : n0 = 2 := Sn.held_unique hh0 (one_held hs3_keys)
  obtain rfl : n1 = 2 := Sn.held_unique hh1 (one_held hs3_keys)
  clear hh0 hh1 ht
  obtain ⟨F7, s2, f2, b2⟩ := sp.base (B := B) FF.out (by have := BB.out.size; omega)
  have S2 := Lib.hid s2
  have BB2 := Lib.hid (BB.out.trans b2)
  have FF2 := Lib.hid f2
  clear sp s2 f2 b2 C BB FF S6
  have BB := BB2
  have FF := FF2
  have S := S2
  clear BB2 FF2 S2
  have c7 := close_any p F7 hs3 1 w7 S.out (by omega)
  rw [hs4_eq] at c7
  have C := Lib.hid c7
  clear c7 S
  go_wp2_with fail
  refine C.out.mono ?_
  rintro e w8 ⟨rfl, sp⟩
  obtain ⟨F8, s2, f2, b2⟩ := sp.base (B := B) FF.out (by have := BB.out.size; omega)
  have S2 := Lib.hid s2
  have BB2 := Lib.hid (BB.out.trans b2)
  have FF2 := Lib.hid f2
  clear sp s2 f2 b2 C BB FF 
  have BB := BB2
  have FF := FF2
  have S := S2
  clear BB2 FF2 S2
  have C := Lib.hid (collect_any p F8 hs4 w8 ((hs3_inv.close 1).sh (by omega)) (by decide) S.out)
  go_wp2_with fail
  refine C.out.mono ?_
  rintro e w9 ⟨ts, n0, n1, ht, hh0, hh1, rfl, sp⟩
  rw [hs4_coll ht] at hh1 sp
  have k5 : Sn.HeldIs hs5.keys 1 := one_held (l := [⟨2, [50], false, false⟩]) (fun t => rfl)
  obtain rfl : n0 = 2 := Sn.held_unique hh0 (one_held hs3_keys)
  obtain rfl : n1 = 1 := Sn.held_unique hh1 k5
  clear hh0 hh1 ht S
  obtain ⟨F9, s2, f2, b2⟩ := sp.base (B := B) FF.out (by have := BB.out.size; omega)
  have S2 := Lib.hid s2
  have BB2 := Lib.hid (BB.out.trans b2)
  have FF2 := Lib.hid f2
  clear sp s2 f2 b2 C BB FF 
  have BB := BB2
  have FF := FF2
  have S := S2
  clear BB2 FF2 S2
  have I5 := hs5_inv.sh (by omega)
  have C := Lib.hid (held_any p F9 hs5 w9 I5 S.out)
  go_wp2_with fail
  refine C.out.mono ?_
  rintro e w10 ⟨n, rfl, hh, -, b10⟩
  obtain rfl : n = 1 := Sn.held_unique hh k5
  have S10 := Lib.hid (S.out.below b10)
  have BB2 := Lib.hid (BB.out.trans (b10.mono (by have := BB.out.size; omega)))
  clear b10 S BB C hh k5 I3
  have BB := BB2
  clear BB2
  have c10 := open_any p F9 hs5 w10 I5 (by decide) S10.out
  rw [hs6_eq] at c10
  have C := Lib.hid c10
  clear c10 S10
  go_wp2_with fail
  refine C.out.mono ?_
  rintro e w11 ⟨rfl, sp⟩
  obtain ⟨F11, s2, f2, b2⟩ := sp.base (B := B) FF.out (by have := BB.out.size; omega)
  have S2 := Lib.hid s2
  have BB2 := Lib.hid (BB.out.trans b2)
  have FF2 := Lib.hid f2
  clear sp s2 f2 b2 C BB FF 
  have BB := BB2
  have FF := FF2
  have S := S2
  clear BB2 FF2 S2
  have c11 := forget_any p F11 hs6 ⟨#[97]⟩ w11 (hs5_inv.open_.sh (by omega)) S.out (by decide)
  change Calls _ _ _ _ (fun e w' => e = .returned (.int .i64 ((forgetF hs6 [97]).2 : Int)) ∧ ShPost w11 p F11 (forgetF hs6 [97]).1 w') at c11
  rw [hs7_eq] at c11
  have C := Lib.hid c11
  clear c11 S
  go_wp2_with fail
  refine C.out.mono ?_
  rintro e w12 ⟨rfl, sp⟩
  obtain ⟨F12, s2, f2, b2⟩ := sp.base (B := B) FF.out (by have := BB.out.size; omega)
  have S2 := Lib.hid s2
  have BB2 := Lib.hid (BB.out.trans b2)
  have FF2 := Lib.hid f2
  clear sp s2 f2 b2 C BB FF 
  have BB := BB2
  have FF := FF2
  have S := S2
  clear BB2 FF2 S2
  have I7 := hs7_inv.sh (by omega)
  have c12 := read_any p F12 hs7 2 ⟨#[97]⟩ w12 I7 S.out (by omega) (by decide)
  unfold ReadSaid at c12
  change Calls _ _ _ _ (fun e w' => e = .returned (.tuple #[.string (mkB (readF hs7 2 [97]).1), .int .i64 ((readF hs7 2 [97]).2 : Int)]) ∧ _) at c12
  rw [hs7_read2] at c12
  have C := Lib.hid c12
  clear c12
  go_wp2_with fail
  refine C.out.mono ?_
  rintro e w13 ⟨rfl, b13⟩
  have S13 := Lib.hid (S.out.below b13)
  have BB2 := Lib.hid (BB.out.trans (b13.mono (by have := BB.out.size; omega)))
  clear b13 S BB C
  have BB := BB2
  clear BB2
  have c13 := read_any p F12 hs7 1 ⟨#[97]⟩ w13 I7 S13.out (by omega) (by decide)
  unfold ReadSaid at c13
  change Calls _ _ _ _ (fun e w' => e = .returned (.tuple #[.string (mkB (readF hs7 1 [97]).1), .int .i64 ((readF hs7 1 [97]).2 : Int)]) ∧ _) at c13
  rw [hs7_read1] at c13
  have C := Lib.hid c13
  clear c13
  go_wp2_with fail
  refine C.out.mono ?_
  rintro e w14 ⟨rfl, b14⟩
  have S := Lib.hid (S13.out.below b14)
  have BB2 := Lib.hid (BB.out.trans (b14.mono (by have := BB.out.size; omega)))
  clear b14 S13 BB C
  have BB := BB2
  clear BB2
  obtain ⟨u5, hup5, hu5, hz5, m5⟩ := put_one w14 [97] [51] (by simp)
  have hup5 : (Instr.mapUpdate 47 (.map (some w14.heap.size)) (.string ⟨#[97]⟩) (.string ⟨#[51]⟩)).run Try.prog (w14.alloc (.map #[] 0)) = .ok () u5 := hup5
  have lt5 : ∀ g, F12 g → g < w14.heap.size := fun g hg => by obtain ⟨bm, br, nk, hd, hh⟩ := S.out; exact hh.lt g hg
  have b5 : Below u5.heap.size u5 (u5.alloc (.cells #[.string ⟨#[97]⟩] 9)) := (Below.refl _ _).alloc (Nat.le_refl _) _
  have c5 := write_any p F12 hs7 [([97], [51])] w14.heap.size [[97]] (some ⟨u5.heap.size, 0, none⟩) 1 1 _ rfl I7 ((S.out.below hu5).below b5) ⟨m5.same (b5.block _ hz5), fun h => Nat.lt_irrefl _ (lt5 _ h), Rd.of_row (heap_alloc_new u5 _) (List.prefix_refl _), fun b off e => by
    injection e with e; injection e with e1 _; rw [← e1]; exact fun h => by have := lt5 _ h; omega, by simp, by simp, by simp, fun q hq => by rw [List.mem_singleton.1 hq]; exact ⟨by simp, by simp⟩, fun t ht => by rw [List.mem_singleton.1 ht]; simp⟩
  rw [hs7_write] at c5
  have C := Lib.hid c5
  have BB2 := Lib.hid ((BB.out.trans (hu5.mono (by have := BB.out.size; omega))).trans (b5.mono (by have := BB.out.size; omega)))
  clear c5 hu5 m5 lt5 hz5 S BB b5
  have BB := BB2
  clear BB2
  go_wp2_with fail
  refine C.out.mono ?_
  rintro e w15 ⟨rfl, sp⟩
  obtain ⟨F15, s2, f2, b2⟩ := sp.base (B := B) FF.out (by have := BB.out.size; omega)
  have S2 := Lib.hid s2
  have BB2 := Lib.hid (BB.out.trans b2)
  have FF2 := Lib.hid f2
  clear sp s2 f2 b2 C BB FF hup5
  have BB := BB2
  have FF := FF2
  have S := S2
  clear BB2 FF2 S2
  have C := Lib.hid (open_nil w15)
  go_wp2_with fail
  refine C.out.mono ?_
  rintro e w16 ⟨rfl, rfl⟩
  clear C
  have C := Lib.hid (held_any p F15 hs7 w16 I7 S.out)
  go_wp2_with fail
  refine C.out.mono ?_
  rintro e w17 ⟨n, rfl, hh, -, b17⟩
  obtain rfl : n = 0 := Sn.held_unique hh (one_held hs7_keys)
  have S17 := Lib.hid (S.out.below b17)
  have BB2 := Lib.hid (BB.out.trans (b17.mono (by have := BB.out.size; omega)))
  clear b17 S BB C hh
  have BB := BB2
  clear BB2
  have c17 := forget_any p F15 hs7 ⟨#[97]⟩ w17 I7 S17.out (by decide)
  change Calls _ _ _ _ (fun e w' => e = .returned (.int .i64 ((forgetF hs7 [97]).2 : Int)) ∧ ShPost w17 p F15 (forgetF hs7 [97]).1 w') at c17
  rw [hs7_forget] at c17
  have C := Lib.hid c17
  clear c17 S17
  go_wp2_with fail
  refine C.out.mono ?_
  rintro e w18 ⟨rfl, sp⟩
  obtain ⟨F18, s18, f18, b18⟩ := sp.base (B := B) FF.out (by have := BB.out.size; omega)
  have BB2 := Lib.hid (BB.out.trans b18)
  clear sp s18 f18 b18 C
  go_wp2_with fail
  go_ret
  exact ⟨rfl, BB2.out⟩
end Go.Proofs.Ytfhgidbmeifflaa
