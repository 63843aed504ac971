/- WALKS: words for the law walks of Sequence. -/
import Derived.Test.YtkklpmfjbkapiaaV1
namespace Go.Proofs.Ytkklpmfjbkapiaa
open Go.RowKit

theorem below_chain {B : Nat} {a b c : World} (h : Below B a b) (k : Below b.heap.size b c) (hB : B ≤ b.heap.size) : Below B a c := h.trans (k.mono hB)
def HeadSaid : Prop := ∀ w : World, Calls Try.prog 9 #[] w fun e w' => e = .returned (.bool true) ∧ Below w.heap.size w w'
def FewPost (l : List ByteArray) (e : Ending) : Prop := (e = .returned (.bool true) ∧ l.length ≤ 30) ∨ e = .returned (.bool false)
theorem FewPost.cases_ {l : List ByteArray} {e : Ending} (h : FewPost l e) : (e = .returned (.bool true) ∧ l.length ≤ 30) ∨ e = .returned (.bool false) := h
theorem few_sl (A : Option Addr) (n c : Nat) (l : List ByteArray) (w : World) (h : Sl w A n c l) : Calls Try.prog 10 #[.slice A n c] w fun e w' => FewPost l e ∧ w = w' := by
  obtain ⟨rfl, h1, h2, h3⟩ := h
  refine (few_any A c l w (by omega) h3).mono fun e w' ⟨⟨b, he, hb⟩, hw⟩ => ⟨?_, hw⟩
  cases b
  · exact .inr he
  · exact .inl ⟨he, hb rfl⟩
theorem same_refl (l : List ByteArray) : sameF l l = true := by simp [sameF]

/-- a slice comes back that reads as a sublist -/
def RetPick (w : World) (l : List ByteArray) (e : Ending) (w' : World) : Prop := ∃ A n c o, e = .returned (.slice A n c) ∧ o.Sublist l ∧ Sl w' A n c o ∧ Below w.heap.size w w'
theorem picked_sl (A : Option Addr) (n c : Nat) (l : List ByteArray) (bits : Int) (w : World) (h : Sl w A n c l) (hl : l.length ≤ 30) : Calls Try.prog 16 #[.slice A n c, .int .u32 bits] w (RetPick w l) := by
  obtain ⟨rfl, h1, h2, h3⟩ := h
  refine (picked_any A c l bits w hl h3).mono fun e w' ⟨v, o, he, hs, ho, hb⟩ => ?_
  obtain ⟨A, c, rfl, k1, k2⟩ := own_form ho
  exact ⟨A, o.length, c, o, he, hs, ⟨rfl, k1, by simpa [maxLen] using k2, Rd.of_own ho⟩, hb⟩
theorem within_sl (bb : Bool) (A B : Option Addr) (n1 n2 c1 c2 : Nat) (a b : List ByteArray) (w : World) (h1 : Sl w A n1 c1 a) (h2 : Sl w B n2 c2 b) (hb : withinF a b = bb) :
    Calls Try.prog 17 #[.slice A n1 c1, .slice B n2 c2] w fun e w' => e = .returned (.bool bb) ∧ Dr w w' := by
  subst hb
  exact within_any A B c1 c2 a b n1 n2 w h1.1 h2.1 (by have := h1.1; have := h1.2.1; have := h1.2.2.1; omega) (by have := h2.1; have := h2.2.1; have := h2.2.2.1; omega) h1.2.2.2 h2.2.2.2
theorem in_sl (b : Bool) (A : Option Addr) (n c : Nat) (l : List ByteArray) (s : ByteArray) (w : World) (h : Sl w A n c l) (hb : inF l s = b) :
    Calls Try.prog 18 #[.slice A n c, .string s] w fun e w' => e = .returned (.bool b) ∧ w = w' :=
  in_b b A c l s n w h.1 (by have := h.1; have := h.2.1; have := h.2.2.1; omega) h.2.2.2 hb
theorem not_inF {l : List ByteArray} {s : ByteArray} (h : inF l s = false) : s ∉ l := by rw [← inF_iff, h]; simp
theorem in_head (b : Bool) {w : World} {A : Option Addr} {n c k : Nat} {l : List ByteArray} (c' : Nat) (s : ByteArray) (h : Sl w A n c l) (hk : k ≤ n) (hb : inF (l.take k) s = b) :
    Calls Try.prog 18 #[.slice A k c', .string s] w fun e w' => e = .returned (.bool b) ∧ w = w' :=
  in_b b A c' (l.take k) s k w (by have := h.1; simp; omega) (by have := h.1; have := h.2.1; have := h.2.2.1; simp; omega) (by rw [List.map_take]; exact h.2.2.2.pre k) hb
theorem in_tail (b : Bool) {w : World} {g off n c k : Nat} {l : List ByteArray} (A' : Option Addr) (m c' : Nat) (s : ByteArray) (h : Sl w (some ⟨g, off, none⟩) n c l) (hk : k + 1 ≤ n) (hm : m = n - (k + 1)) (hA : m = 0 ∨ A' = some ⟨g, off + (k + 1), none⟩) (hb : inF (l.drop (k + 1)) s = b) :
    Calls Try.prog 18 #[.slice A' m c', .string s] w fun e w' => e = .returned (.bool b) ∧ w = w' := by
  refine in_b b A' c' (l.drop (k + 1)) s m w (by have := h.1; simp; omega) (by have := h.1; have := h.2.1; have := h.2.2.1; simp; omega) ?_ hb
  rcases hA with h0 | rfl
  · intro hp
    have := h.1
    simp at hp
    omega
  · intro hp
    obtain ⟨b', off', e, hb', hc⟩ := h.2.2.2 (by simp at hp; simp; omega)
    cases e
    refine ⟨_, _, rfl, hb', fun i u hu => ?_⟩
    rw [List.getElem?_map, List.getElem?_drop] at hu
    have := hc (k + 1 + i) u (by rw [List.getElem?_map]; exact hu)
    rw [Nat.add_assoc]; exact this
theorem once_of {b : List ByteArray} {k : Nat} {v : ByteArray} (hk : k < b.length) (hv : v = b[k]) (h1 : inF (b.take k) v = false) (h2 : inF (b.drop (k + 1)) v = false) : ∀ j, b[j]? = some v → j = k := by
  intro j hj
  have m1 := not_inF h1
  have m2 := not_inF h2
  obtain ⟨hjl, hjv⟩ := List.getElem?_eq_some_iff.1 hj
  rcases Nat.lt_trichotomy j k with h | h | h
  · exact absurd (by rw [← hjv]; exact List.mem_take_iff_getElem.2 ⟨j, by omega, rfl⟩) m1
  · exact h
  · refine absurd ?_ m2
    rw [← hjv]
    exact List.mem_drop_iff_getElem.2 ⟨j - (k + 1), by omega, by congr 1; omega⟩
theorem joined_rd {w w' : World} {vs : List (Option Addr × Nat × Nat)} {ls : List (List ByteArray)} (hl : vs.length = ls.length) (h : ∀ i (h : i < vs.length) (h' : i < ls.length), Sl w vs[i].1 vs[i].2.1 vs[i].2.2 ls[i]) (hb : Below w.heap.size w w') : Rds w' vs ls :=
  ⟨hl, fun i h1 h2 => ⟨(h i h1 h2).1, (h i h1 h2).2.2.2.below hb⟩⟩
theorem joined3_sl (A B C : Option Addr) (n1 n2 n3 c1 c2 c3 : Nat) (a b c : List ByteArray) (w : World) (h1 : Sl w A n1 c1 a) (h2 : Sl w B n2 c2 b) (h3 : Sl w C n3 c3 c) (l1 : a.length ≤ 1000000) (l2 : b.length ≤ 1000000) (l3 : c.length ≤ 1000000) :
    Calls Try.prog 19 #[.slice (some ⟨w.heap.size, 0, none⟩) 3 3] (w.alloc (.cells #[.slice A n1 c1, .slice B n2 c2, .slice C n3 c3] 22)) (RetSl w (a ++ b ++ c)) := by
  have hB : Below w.heap.size w (w.alloc (.cells #[.slice A n1 c1, .slice B n2 c2, .slice C n3 c3] 22)) := (Below.refl _ _).alloc (Nat.le_refl _) _
  refine (joined_any _ 3 [(A, n1, c1), (B, n2, c2), (C, n3, c3)] [a, b, c] 3 _ rfl (by simp) (by simp; omega) ?_ ?_).mono fun e w' h => ?_
  · exact Rd.of_row (heap_alloc_new w _) (by exact List.prefix_refl _)
  · refine joined_rd rfl (fun i hi _ => ?_) hB
    match i, hi with
    | 0, _ => exact h1
    | 1, _ => exact h2
    | 2, _ => exact h3
  · have := retSl_own h
    obtain ⟨A', n', c', he, hs, hb⟩ := this
    refine ⟨A', n', c', he, by simpa using hs, hB.trans (hb.mono (by simp))⟩
theorem joined2_sl (A B : Option Addr) (n1 n2 c1 c2 : Nat) (a b : List ByteArray) (w : World) (h1 : Sl w A n1 c1 a) (h2 : Sl w B n2 c2 b) (l1 : a.length ≤ 1000000) (l2 : b.length ≤ 1000000) :
    Calls Try.prog 19 #[.slice (some ⟨w.heap.size, 0, none⟩) 2 2] (w.alloc (.cells #[.slice A n1 c1, .slice B n2 c2] 22)) (RetSl w (a ++ b)) := by
  have hB : Below w.heap.size w (w.alloc (.cells #[.slice A n1 c1, .slice B n2 c2] 22)) := (Below.refl _ _).alloc (Nat.le_refl _) _
  refine (joined_any _ 2 [(A, n1, c1), (B, n2, c2)] [a, b] 2 _ rfl (by simp) (by simp; omega) ?_ ?_).mono fun e w' h => ?_
  · exact Rd.of_row (heap_alloc_new w _) (by exact List.prefix_refl _)
  · refine joined_rd rfl (fun i hi _ => ?_) hB
    match i, hi with
    | 0, _ => exact h1
    | 1, _ => exact h2
  · have := retSl_own h
    obtain ⟨A', n', c', he, hs, hb⟩ := this
    refine ⟨A', n', c', he, by simpa using hs, hB.trans (hb.mono (by simp))⟩
theorem apart_q {w : World} {A : Option Addr} {n c : Nat} {q : List ByteArray} (h : Sl w A n c q) (h0 : ¬ n = 0) : q ≠ [] := by rintro rfl; exact h0 h.1
theorem apart_pq {p q r : List ByteArray} (h : (p ++ q ++ r).Nodup) : ∀ x ∈ q, x ∉ p := by
  intro x hx hp
  have := (List.nodup_append.1 (List.nodup_append.1 h).1).2.2 x hp x hx
  exact this rfl
theorem apart_pr {p q r : List ByteArray} (h : (p ++ q ++ r).Nodup) : ∀ x ∈ r, x ∉ p := by
  intro x hx hp
  exact (List.nodup_append.1 h).2.2 x (List.mem_append.2 (.inl hp)) x hx rfl
def DiffPost (l : List ByteArray) (e : Ending) : Prop := (e = .returned (.bool true) ∧ l.Nodup) ∨ e = .returned (.bool false)
theorem DiffPost.cases_ {l : List ByteArray} {e : Ending} (h : DiffPost l e) : (e = .returned (.bool true) ∧ l.Nodup) ∨ e = .returned (.bool false) := h
theorem different_sl (A : Option Addr) (n c : Nat) (l : List ByteArray) (w : World) (h : Sl w A n c l) : Calls Try.prog 20 #[.slice A n c] w fun e w' => DiffPost l e ∧ Dr w w' := by
  refine (different_any A c l n w h.1 h.2.1 h.2.2.1 h.2.2.2).mono fun e w' ⟨⟨b, he, hb⟩, hw⟩ => ⟨?_, hw⟩
  cases b
  · exact .inr he
  · exact .inl ⟨he, hb rfl⟩
end Go.Proofs.Ytkklpmfjbkapiaa
