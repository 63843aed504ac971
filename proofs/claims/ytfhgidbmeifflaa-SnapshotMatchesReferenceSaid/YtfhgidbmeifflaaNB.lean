/- WALKS: shelves in memory; Read. -/
import Derived.Test.YtfhgidbmeifflaaNA
import Derived.StringKeys
set_option linter.unusedSimpArgs false
set_option linter.unusedVariables false
namespace Go.Proofs.Ytfhgidbmeifflaa
open Go.RowKit Go.Maps Go.ChangeMaps Go.MapKept Go.WideShapes Go.WideMaps

/-- what a shelf is: the versions, the clock, how many were opened; the histories; the readers with their times, how many; a bound on the keys -/
structure Sh where
  ver : Nat
  clk : Nat
  opn : Nat
  keys : List UInt8 → List Sn.Val
  rd : Nat → Option Nat
  nrd : Nat
  lim : Nat
structure ShInv (s : Sh) : Prop where
  ord : ∀ t, Sn.Ord 0 (s.keys t)
  upto : ∀ t, ∀ v ∈ s.keys t, v.since ≤ s.clk
  rdc : ∀ i c, s.rd i = some c → c ≤ s.clk ∧ i ≤ s.opn
  ver : s.ver ≤ s.clk
  clk : s.clk ≤ 10000
  opn : s.opn ≤ 10000
  lim : s.lim ≤ 100000
theorem ord_len {lo c : Nat} : ∀ {l : List Sn.Val}, Sn.Ord lo l → (∀ v ∈ l, v.since ≤ c) → l.length ≤ c + 1 - lo
  | [], _, _ => Nat.zero_le _
  | a :: l, h, hu => by
    have h1 := hu a (by simp)
    have := ord_len h.2 (c := c) (fun v hv => hu v (by simp [hv]))
    have h0 := h.1
    rw [List.length_cons]
    omega
theorem ShInv.len {s : Sh} (h : ShInv s) (t : List UInt8) : (s.keys t).length ≤ 10001 := by
  have := ord_len (h.ord t) (h.upto t)
  have := h.clk
  omega
def keyM (hd : List UInt8 → Option Value) : Lit → Option Value
  | .string t => hd t
  | _ => none
def rdM (rd : Nat → Option Nat) : Lit → Option Value
  | .int .i64 x => if 0 ≤ x then (rd x.toNat).map (fun c : Nat => Value.int .i64 (c : Int)) else none
  | _ => none
def Sep (a b : Value) : Prop := ∀ g, a.ownBlock = some g → b.ownBlock ≠ some g
structure ShMem (w : World) (p : Nat) (F : Nat → Prop) (s : Sh) (bm br nk : Nat) (hd : List UInt8 → Option Value) : Prop where
  blk : w.heap[p]? = some (.cells #[.int .i64 (s.ver : Int), .int .i64 (s.clk : Int), .map (some bm), .map (some br), .int .i64 (s.opn : Int)] 53 (0, 0))
  km : MapAt w Try.prog 9 bm (keyM hd) nk
  rm : MapAt w Try.prog 3 br (rdM s.rd) s.nrd
  none_ : ∀ t, hd t = none → s.keys t = []
  row : ∀ t v, hd t = some v → s.keys t ≠ [] ∧ w.ownsRow 0 62 4 v (s.keys t).length (rows (s.keys t))
  sep : ∀ t t' v v', t ≠ t' → hd t = some v → hd t' = some v' → Sep v v'
  fp : F p
  fm : F bm
  fr : F br
  frow : ∀ t v g, hd t = some v → v.ownBlock = some g → F g
  ne : bm ≠ br
  nk : nk ≤ s.lim
  lt : ∀ g, F g → g < w.heap.size
/-- a shelf lies at p, in the blocks F -/
def ShAt (w : World) (p : Nat) (F : Nat → Prop) (s : Sh) : Prop := ∃ bm br nk hd, ShMem w p F s bm br nk hd
theorem ShMem.keep {w w' : World} {p : Nat} {F : Nat → Prop} {s : Sh} {bm br nk : Nat} {hd : List UInt8 → Option Value} (h : ShMem w p F s bm br nk hd) (hz : w.heap.size ≤ w'.heap.size) (hb : ∀ g, F g → w'.heap[g]? = w.heap[g]?) : ShMem w' p F s bm br nk hd := by
  refine ⟨(hb p h.fp).trans h.blk, h.km.same (hb _ h.fm), h.rm.same (hb _ h.fr), h.none_, fun t v hv => ⟨(h.row t v hv).1, ?_⟩, h.sep, h.fp, h.fm, h.fr, h.frow, h.ne, h.nk, fun g hg => Nat.lt_of_lt_of_le (h.lt g hg) hz⟩
  obtain ⟨h1, h2⟩ := (h.row t v hv).2
  refine ⟨h1, ?_⟩
  rcases h2 with h2 | ⟨g, cap, cur, e, hg, hh, rest⟩
  · exact .inl h2
  · exact .inr ⟨g, cap, cur, e, hg, (hb g (h.frow t v g hv (by rw [e]; rfl))).trans hh, rest⟩
theorem ShMem.below {w w' : World} {p : Nat} {F : Nat → Prop} {s : Sh} {bm br nk : Nat} {hd : List UInt8 → Option Value} (h : ShMem w p F s bm br nk hd) (hb : Below w.heap.size w w') : ShMem w' p F s bm br nk hd := h.keep hb.size (fun g hg => hb.block g (h.lt g hg))
theorem ShAt.below {w w' : World} {p : Nat} {F : Nat → Prop} {s : Sh} (h : ShAt w p F s) (hb : Below w.heap.size w w') : ShAt w' p F s := by
  obtain ⟨bm, br, nk, hd, h⟩ := h; exact ⟨bm, br, nk, hd, h.below hb⟩
/-- the shelf of another object is not touched -/
theorem ShAt.but {w w' : World} {p : Nat} {F G : Nat → Prop} {s : Sh} (h : ShAt w p F s) (hb : But G w w') (hd : ∀ g, F g → ¬ G g) : ShAt w' p F s := by
  obtain ⟨bm, br, nk, hd', h⟩ := h
  exact ⟨bm, br, nk, hd', h.keep hb.size (fun g hg => hb.block g (h.lt g hg) (hd g hg))⟩
theorem strK : Go.Maps.Keyed Try.prog 9 := Maps.string_keyed Try.underlying9
theorem intK : Go.Maps.Keyed Try.prog 3 := Maps.int_keyed Try.underlying3
theorem zSl (w : World) : (zeroValue 60).run Try.prog w = .ok (.slice none 0 0) w := by kernel_rfl
theorem zInt (w : World) : (zeroValue 3).run Try.prog w = .ok (.int .i64 0) w := by kernel_rfl
theorem key_str (s : ByteArray) (hs : s.size ≤ 9223372036854775807) : keyOf Try.prog 9 (.string s) = some (.string s.data.toList) := keyOf_string_mk Try.underlying9 (by unfold maxLen; exact hs)
theorem key_nat (r : Nat) (hr : r ≤ 1000000) : keyOf Try.prog 3 (.int .i64 (r : Int)) = some (.int .i64 (r : Int)) := Maps.keyOf_int_mk Try.underlying3 (by simp [Lit.wf, IntKind.min, IntKind.max, IntKind.signed, IntKind.bits]; omega)
theorem rdM_nat (rd : Nat → Option Nat) (r : Nat) : rdM rd (.int .i64 (r : Int)) = (rd r).map (fun c : Nat => Value.int .i64 (c : Int)) := by
  show (if (0 : Int) ≤ (r : Int) then (rd (r : Int).toNat).map (fun c : Nat => Value.int .i64 (c : Int)) else none) = _
  rw [if_pos (by omega), Int.toNat_natCast]
/-- the shelf's own cells -/
theorem ShMem.cells {w : World} {p : Nat} {F : Nat → Prop} {s : Sh} {bm br nk : Nat} {hd : List UInt8 → Option Value} (h : ShMem w p F s bm br nk hd) :
    w.cell? ⟨p, 0, none⟩ = some (.int .i64 (s.ver : Int)) ∧ w.cell? ⟨p, 1, none⟩ = some (.int .i64 (s.clk : Int)) ∧ w.cell? ⟨p, 2, none⟩ = some (.map (some bm)) ∧ w.cell? ⟨p, 3, none⟩ = some (.map (some br)) ∧ w.cell? ⟨p, 4, none⟩ = some (.int .i64 (s.opn : Int)) :=
  ⟨cell_of_row w p 0 _ _ _ h.blk, cell_of_row w p 1 _ _ _ h.blk, cell_of_row w p 2 _ _ _ h.blk, cell_of_row w p 3 _ _ _ h.blk, cell_of_row w p 4 _ _ _ h.blk⟩
theorem ShMem.look {w : World} {p : Nat} {F : Nat → Prop} {s : Sh} {bm br nk : Nat} {hd : List UInt8 → Option Value} (h : ShMem w p F s bm br nk hd) (k : ByteArray) (hk : k.size ≤ 9223372036854775807) :
    (Instr.lookup 50 (.map (some bm)) (.string k) false).run Try.prog w = .ok ((hd k.data.toList).getD (.slice none 0 0)) w :=
  h.km.look strK Try.underlying50 (zSl w) (key_str k hk)
theorem ShMem.look_rd {w : World} {p : Nat} {F : Nat → Prop} {s : Sh} {bm br nk : Nat} {hd : List UInt8 → Option Value} (h : ShMem w p F s bm br nk hd) (r : Nat) (hr : r ≤ 1000000) :
    (Instr.lookup 51 (.map (some br)) (.int .i64 (r : Int)) true).run Try.prog w = .ok (.tuple #[((s.rd r).map (fun c : Nat => Value.int .i64 (c : Int))).getD (.int .i64 0), .bool (s.rd r).isSome]) w := by
  have := h.rm.look_ok intK Try.underlying51 (zInt w) (key_nat r hr)
  rw [rdM_nat] at this
  rw [this]
  cases s.rd r <;> rfl
/-- the slice of a key, as the walk meets it -/
theorem ShMem.head {w : World} {p : Nat} {F : Nat → Prop} {s : Sh} {bm br nk : Nat} {hd : List UInt8 → Option Value} (h : ShMem w p F s bm br nk hd) (t : List UInt8) :
    ∃ A c, (hd t).getD (.slice none 0 0) = .slice A (s.keys t).length c ∧ Rd w A (rows (s.keys t)) := by
  cases e : hd t with
  | none => rw [h.none_ t e]; exact ⟨none, 0, rfl, Rd.nil_ _ _⟩
  | some v =>
    obtain ⟨h1, h2⟩ := h.row t v e
    rcases h2.2 with ⟨h3, h4⟩ | ⟨g, cap, cur, h3, h4, hg, h5, h6, h7, h8⟩
    · exact absurd (List.eq_nil_of_length_eq_zero h4) h1
    · exact ⟨some ⟨g, 0, none⟩, cap, h3, Rd.of_row hg (by rw [← h8]; exact List.take_prefix _ _)⟩
/-- Read, plainly -/
def readF (s : Sh) (r : Nat) (t : List UInt8) : List UInt8 × Nat :=
  match s.rd r with
  | none => ([], 20)
  | some c => Sn.rdv (Sn.cur (s.keys t) c)
def ReadSaid (s : Sh) (r : Nat) (t : List UInt8) (e : Ending) : Prop := e = .returned (.tuple #[.string (mkB (readF s r t).1), .int .i64 ((readF s r t).2 : Int)])
set_option maxHeartbeats 4000000 in
set_option maxRecDepth 100000 in
theorem read_any (p : Nat) (F : Nat → Prop) (s : Sh) (r : Nat) (key : ByteArray) (w : World) (hI : ShInv s) (h : ShAt w p F s) (hr : r ≤ 1000000) (hk : key.size ≤ 9223372036854775807) :
    Calls Try.prog 17 #[.pointer (some ⟨p, 0, none⟩), .int .i64 (r : Int), .string key] w fun e w' => ReadSaid s r key.data.toList e ∧ Below w.heap.size w w' := by
  obtain ⟨bm, br, nk, hd, h⟩ := h
  have H := Lib.hid h
  obtain ⟨x0, x1, x2, x3, x4⟩ := h.cells
  have lr := h.look_rd r hr
  have lk := h.look key hk
  obtain ⟨A, c, hA, hRd⟩ := h.head key.data.toList
  rw [hA] at lk
  have RD := Lib.hid hRd
  have HI := Lib.hid hI
  have ORD := Lib.hid (hI.ord key.data.toList)
  have LEN := hI.len key.data.toList
  have HRF : Hid (readF s r key.data.toList = match s.rd r with | none => ([], 20) | some c => Sn.rdv (Sn.cur (s.keys key.data.toList) c)) := Lib.hid rfl
  have RS : Hid (∀ e, e = .returned (.tuple #[.string (mkB (readF s r key.data.toList).1), .int .i64 ((readF s r key.data.toList).2 : Int)]) → ReadSaid s r key.data.toList e) := Lib.hid (fun e he => he)
  generalize readF s r key.data.toList = RR at *
  generalize ReadSaid s r key.data.toList = SAID at *
  clear h hA hRd hI
  cases hrd : s.rd r with
  | none =>
    rw [hrd] at lr HRF
    clear hrd
    go_enter Try.func17, Try.ntmps17
    go_wp2_with fail
    go_ret2
    exact ⟨RS.out _ (by rw [HRF.out]; rfl), Below.refl _ _⟩
  | some cl =>
    rw [hrd] at lr HRF
    have hcl := (HI.out.rdc r cl hrd).1
    have hclk := HI.out.clk
    clear hrd
    have AT := Lib.hid (fun u (hu : Below w.heap.size w u) => snat_any A (s.keys key.data.toList).length c (s.keys key.data.toList) cl u rfl (by omega) ORD.out (fun v hv => by have := HI.out.upto _ v hv; omega) (by omega) (RD.out.below hu))
    have CG : Hid (∀ (hp : 0 < Sn.cntAt (s.keys key.data.toList) cl), ∃ hi : Sn.cntAt (s.keys key.data.toList) cl - 1 < (s.keys key.data.toList).length, Sn.cur (s.keys key.data.toList) cl = some (s.keys key.data.toList)[Sn.cntAt (s.keys key.data.toList) cl - 1]) := Lib.hid (fun hp => Sn.cur_get ORD.out cl hp)
    have CN : Hid (Sn.cntAt (s.keys key.data.toList) cl = 0 → Sn.cur (s.keys key.data.toList) cl = none) := Lib.hid Sn.cur_none
    have CL := Sn.cntAt_le (s.keys key.data.toList) cl
    generalize s.keys key.data.toList = l at *
    generalize Sn.cntAt l cl = m at *
    go_enter Try.func17, Try.ntmps17
    go_wp2_with fail
    refine (AT.out _ (Below.refl _ _)).mono ?_
    rintro e w1 ⟨rfl, hb1⟩
    have B1 := Lib.hid hb1; clear hb1
    by_cases hm : m = 0
    · have RE : Hid (RR = ([], 11)) := Lib.hid (by rw [HRF.out]; show Sn.rdv (Sn.cur l cl) = _; rw [CN.out hm]; rfl)
      have d1 : (m : Int) - 1 < 0 := by omega
      clear hm
      go_wp2_with fail
      go_ret2
      exact ⟨RS.out _ (by rw [RE.out]; rfl), B1.out⟩
    · obtain ⟨hi, hcur⟩ := CG.out (by omega)
      have RE : Hid (RR = Sn.rdv (some l[m - 1])) := Lib.hid (by rw [HRF.out, ← hcur])
      have d1 : ¬ (m : Int) - 1 < 0 := by omega
      obtain ⟨b, off, rfl, hb, c0, c1, c2, c3⟩ := rows_at (RD.out.below B1.out) hi
      have t1 : ((m : Int) - 1).toNat = m - 1 := by omega
      have j1 : (m : Int) - 1 < (l.length : Int) := by omega
      have j2 : (0 : Int) ≤ (m : Int) - 1 := by omega
      have j3 : (1 : Int) ≤ (m : Int) := by omega
      have RV : Hid (Sn.rdv (some l[m - 1]) = if l[m - 1].gone && !l[m - 1].forgot then ([], 11) else if l[m - 1].forgot then ([], 24) else (l[m - 1].text, 0)) := Lib.hid rfl
      clear hcur hm
      generalize l[m - 1].since = sn at *
      generalize l[m - 1].text = tx at *
      generalize l[m - 1].gone = gn at *
      generalize l[m - 1].forgot = fg at *
      cases gn <;> cases fg
      all_goals
        go_wp2_with fail
        go_ret2
        exact ⟨RS.out _ (by rw [RE.out, RV.out]; rfl), B1.out⟩
end Go.Proofs.Ytfhgidbmeifflaa
