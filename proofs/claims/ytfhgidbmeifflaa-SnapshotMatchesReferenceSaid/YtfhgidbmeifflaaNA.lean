/- WALKS: shelves: the value that counts at a time. -/
import Derived.Test.YtfhgidbmeifflaaRows
import Derived.Test.YtfhgidbmeifflaaNM
import Derived.Test.YtfhgidbmeifflaaNP
import Derived.Laws.Strings
import Derived.WalkKit
import Derived.WalkSpells
import Derived.WalkLawsBesides
import Derived.Deep.QuietTactic
import Derived.BigQuiet
import Derived.IntWalk
import Derived.StillTailTactics
set_option linter.unusedSimpArgs false
set_option linter.unusedVariables false
namespace Go.Proofs.Ytfhgidbmeifflaa
open Go.RowKit

/-- the string of bytes -/
def mkB (t : List UInt8) : ByteArray := ⟨t.toArray⟩
theorem mkB_list (t : List UInt8) : (mkB t).data.toList = t := by simp [mkB]
theorem mkB_of (s : ByteArray) : mkB s.data.toList = s := by apply ByteArray.ext; simp [mkB]
theorem mkB_inj {a b : List UInt8} (e : mkB a = mkB b) : a = b := by rw [← mkB_list a, ← mkB_list b, e]
def vCells (v : Sn.Val) : List Value := [.int .i64 (v.since : Int), .string (mkB v.text), .bool v.gone, .bool v.forgot]
def vAgg (v : Sn.Val) : Value := .agg #[.int .i64 (v.since : Int), .string (mkB v.text), .bool v.gone, .bool v.forgot]
def rows (l : List Sn.Val) : List Value := l.flatMap vCells
theorem rows_len (l : List Sn.Val) : (rows l).length = l.length * 4 := by
  unfold rows
  induction l with
  | nil => rfl
  | cons a l ih => rw [List.flatMap_cons, List.length_append, ih, List.length_cons]; simp [vCells]; omega
theorem rows_get : ∀ {l : List Sn.Val} {k : Nat} (h : k < l.length) {f : Nat} {u : Value}, (vCells l[k])[f]? = some u → (rows l)[k * 4 + f]? = some u
  | a :: l, 0, _, f, u, hu => by
    unfold rows
    have hf : f < 4 := by have := (List.getElem?_eq_some_iff.1 hu).1; simpa [vCells] using this
    rw [List.flatMap_cons, List.getElem?_append_left (by simp [vCells]; omega), Nat.zero_mul, Nat.zero_add]
    exact hu
  | a :: l, k + 1, h, f, u, hu => by
    have := rows_get (l := l) (k := k) (by simpa using h) (f := f) (u := u) (by simpa using hu)
    unfold rows at *
    rw [List.flatMap_cons, List.getElem?_append_right (by simp [vCells]; omega), show (k + 1) * 4 + f - (vCells a).length = k * 4 + f by simp [vCells]; omega]
    exact this
theorem rows_at {w : World} {A : Option Addr} {l : List Sn.Val} (h : Rd w A (rows l)) {k : Nat} (hk : k < l.length) :
    ∃ b off, A = some ⟨b, off, none⟩ ∧ b < w.heap.size ∧ w.cell? ⟨b, off + k * 4, none⟩ = some (.int .i64 (l[k].since : Int)) ∧ w.cell? ⟨b, off + k * 4 + 1, none⟩ = some (.string (mkB l[k].text)) ∧ w.cell? ⟨b, off + k * 4 + 2, none⟩ = some (.bool l[k].gone) ∧ w.cell? ⟨b, off + k * 4 + 3, none⟩ = some (.bool l[k].forgot) := by
  obtain ⟨b, off, e, hb, hc⟩ := h (by rw [rows_len]; omega)
  refine ⟨b, off, e, hb, ?_, ?_, ?_, ?_⟩
  · exact hc (k * 4 + 0) _ (rows_get hk rfl)
  · have := hc (k * 4 + 1) _ (rows_get hk rfl); rwa [← Nat.add_assoc] at this
  · have := hc (k * 4 + 2) _ (rows_get hk rfl); rwa [← Nat.add_assoc] at this
  · have := hc (k * 4 + 3) _ (rows_get hk rfl); rwa [← Nat.add_assoc] at this
set_option maxHeartbeats 400000 in
theorem at1_any (v : Sn.Val) (c : Int) (w : World) (hv : v.since ≤ 1000000) (hc0 : 0 ≤ c) (hc : c ≤ 1000000) :
    Calls Try.prog 38 #[vAgg v, .int .i64 c] w fun e w' => e = .returned (.int .i64 ((v.since : Int) - c)) ∧ Below w.heap.size w w' := by
  unfold vAgg
  generalize v.since = a at *
  generalize mkB v.text = t at *
  generalize v.gone = g at *
  generalize v.forgot = f at *
  have w1 : IntKind.i64.wrap ((a : Int) - c) = (a : Int) - c := IntWalk.i64_in _ (by omega)
  have B1 := Lib.hid ((Below.refl w.heap.size w).alloc (Nat.le_refl _) (.cells #[.int .i64 (a : Int), .string t, .bool g, .bool f] 62))
  go_enter Try.func38, Try.ntmps38
  go_wp2_with fail
  go_ret
  exact ⟨rfl, B1.out⟩
/-- an index and whether it is the one -/
def IdxP (i : Nat) (e : Ending) : Prop := ∃ b : Bool, e = .returned (.tuple #[.int .i64 (i : Int), .bool b])
set_option maxHeartbeats 4000000 in
set_option maxRecDepth 100000 in
theorem bsearch_any (A : Option Addr) (n c : Nat) (l : List Sn.Val) (cl : Nat) (w : World) (hn : n = l.length) (hl : l.length ≤ 1000000) (ho : Sn.Ord 0 l) (hup : ∀ v ∈ l, v.since ≤ 1000000) (hcl : cl < 1000000) (h : Rd w A (rows l)) :
    Calls Try.prog 37 #[.slice A n c, .int .i64 ((cl : Int) + 1), .func (.func 38) #[] #[]] w fun e w' => IdxP (Sn.cntAt l cl) e ∧ Below w.heap.size w w' := by
  subst hn
  have H := Lib.hid h; clear h
  have SP := Lib.hid (fun i hi => Sn.cntAt_split ho cl i hi)
  have CL := Sn.cntAt_le l cl
  have UP := Lib.hid hup
  clear ho hup
  generalize Sn.cntAt l cl = m at *
  obtain ⟨n, hn⟩ : ∃ n, l.length = n := ⟨_, rfl⟩
  have HN := Lib.hid hn
  rw [hn] at hl CL ⊢
  have HB : Hid (Below w.heap.size w w) := Lib.hid (Below.refl _ _)
  clear hn
  go_enter Try.func37, Try.ntmps37
  go_wp2_with fail
  go_loopw [9, 10] (fun i j wr => ∃ a b : Nat, a ≤ m ∧ m ≤ b ∧ b ≤ n ∧ i = .int .i64 a ∧ j = .int .i64 b ∧ Hid (Below w.heap.size w wr)) (fun i j _ => (intOf j).toNat - (intOf i).toNat)
  case atStart => exact ⟨0, n, by omega, CL, Nat.le_refl _, rfl, rfl, HB⟩
  case round =>
    clear HB
    obtain ⟨a, b, ham, hmb, hbn, rfl, rfl, hbl⟩ := hrel
    by_cases hab : a < b
    · have d1 : (a : Int) < (b : Int) := by omega
      obtain ⟨k, hk⟩ : ∃ k, (a + b) / 2 = k := ⟨_, rfl⟩
      have hka : a ≤ k := by omega
      have hkb : k < b := by omega
      have hkn : k < n := by omega
      have hkl : k < l.length := by rw [HN.out]; exact hkn
      have w1 : IntKind.i64.wrap ((a : Int) + (b : Int)) = (a : Int) + (b : Int) := IntWalk.i64_in _ (by omega)
      have w2 : IntKind.u64.wrap ((a : Int) + (b : Int)) = (a : Int) + (b : Int) := by rw [IntKind.wrap_u64]; omega
      have w3 : ((a : Int) + (b : Int)) / 2 = (k : Int) := by omega
      have w4 : IntKind.i64.wrap (k : Int) = (k : Int) := IntWalk.i64_in _ (by omega)
      have w5 : IntKind.u64.wrap (k : Int) = (k : Int) := by rw [IntKind.wrap_u64]; omega
      have w6 : IntKind.i64.wrap ((k : Int) + 1) = (k : Int) + 1 := IntWalk.i64_in _ (by omega)
      have s1 := SP.out k hkl
      obtain ⟨bl, off, rfl, hb, c0, c1, c2, c3⟩ := rows_at (H.out.below hbl.out) hkl
      have hu := UP.out l[k] (List.getElem_mem hkl)
      have AT := Lib.hid (fun u => at1_any l[k] ((cl : Int) + 1) u hu (by omega) (by omega))
      unfold vAgg at AT
      generalize l[k].since = sn at *
      generalize mkB l[k].text = tx at *
      generalize l[k].gone = gn at *
      generalize l[k].forgot = fg at *
      go_wp2_with fail
      refine (AT.out _).mono ?_
      rintro e w2 ⟨rfl, hb2⟩
      have B2 := Lib.hid (hbl.out.trans (hb2.mono hbl.out.size)); clear hb2 hbl
      by_cases hs : sn ≤ cl
      · have d2 : (sn : Int) - ((cl : Int) + 1) < 0 := by omega
        have hm : k < m := s1.1 hs
        clear s1 hs
        go_wp2_with fail
        exact ⟨⟨k + 1, b, by omega, hmb, hbn, by go_num, rfl, B2⟩, by simp [intOf]; omega⟩
      · have d2 : ¬ (sn : Int) - ((cl : Int) + 1) < 0 := by omega
        have hm : ¬ k < m := fun e => hs (s1.2 e)
        clear s1 hs
        go_wp2_with fail
        exact ⟨⟨a, k, ham, by omega, by omega, rfl, rfl, B2⟩, by simp [intOf]; omega⟩
    · obtain rfl : a = m := by omega
      have d1 : ¬ (a : Int) < (b : Int) := by omega
      by_cases han : a < n
      · have d2 : (a : Int) < (n : Int) := by omega
        have hkl : a < l.length := by rw [HN.out]; exact han
        obtain ⟨bl, off, rfl, hb, c0, c1, c2, c3⟩ := rows_at (H.out.below hbl.out) hkl
        have hu := UP.out l[a] (List.getElem_mem hkl)
        have AT := Lib.hid (fun u => at1_any l[a] ((cl : Int) + 1) u hu (by omega) (by omega))
        unfold vAgg at AT
        generalize l[a].since = sn at *
        generalize mkB l[a].text = tx at *
        generalize l[a].gone = gn at *
        generalize l[a].forgot = fg at *
        go_wp2_with fail
        refine (AT.out _).mono ?_
        rintro e w2 ⟨rfl, hb2⟩
        have B2 := Lib.hid (hbl.out.trans (hb2.mono hbl.out.size)); clear hb2 hbl
        obtain ⟨q, hq⟩ : ∃ q : Bool, ((sn : Int) - ((cl : Int) + 1) == 0) = q := ⟨_, rfl⟩
        go_wp2_with fail
        go_ret2
        exact ⟨⟨_, rfl⟩, B2.out⟩
      · have d2 : ¬ (a : Int) < (n : Int) := by omega
        go_wp2_with fail
        go_ret2
        exact ⟨⟨_, rfl⟩, hbl.out⟩
set_option maxHeartbeats 400000 in
theorem snat_any (A : Option Addr) (n c : Nat) (l : List Sn.Val) (cl : Nat) (w : World) (hn : n = l.length) (hl : l.length ≤ 1000000) (ho : Sn.Ord 0 l) (hup : ∀ v ∈ l, v.since ≤ 1000000) (hcl : cl < 1000000) (h : Rd w A (rows l)) :
    Calls Try.prog 29 #[.slice A n c, .int .i64 (cl : Int)] w fun e w' => e = .returned (.int .i64 ((Sn.cntAt l cl : Int) - 1)) ∧ Below w.heap.size w w' := by
  have BS := Lib.hid (bsearch_any A n c l cl w hn hl ho hup hcl h)
  have CL := Sn.cntAt_le l cl
  have hm : Sn.cntAt l cl ≤ 1000000 := Nat.le_trans CL hl
  clear h ho hup hn CL hl
  generalize Sn.cntAt l cl = m at *
  have w1 : IntKind.i64.wrap ((cl : Int) + 1) = (cl : Int) + 1 := IntWalk.i64_in _ (by omega)
  have w2 : IntKind.i64.wrap ((m : Int) - 1) = (m : Int) - 1 := IntWalk.i64_in _ (by omega)
  go_enter Try.func29, Try.ntmps29
  go_wp2_with fail
  (with_reducible refine BS.out.mono ?_)
  rintro e w2 ⟨⟨b, rfl⟩, hb2⟩
  have B2 := Lib.hid hb2; clear hb2
  go_wp2_with fail
  go_ret
  exact ⟨rfl, B2.out⟩
end Go.Proofs.Ytfhgidbmeifflaa
