/- WALKS: the law's examples; contracts in words of slices that read as lists. -/
import Derived.Test.YtkklpmfjbkapiaaW8
namespace Go.Proofs.Ytkklpmfjbkapiaa
open Go.RowKit

/-- a slice value that reads as a list of strings -/
def Sl (w : World) (A : Option Addr) (n c : Nat) (l : List ByteArray) : Prop := n = l.length ∧ n ≤ c ∧ c ≤ 9223372036854775807 ∧ Rd w A (l.map Value.string)
theorem Sl.below {w w' : World} {A : Option Addr} {n c : Nat} {l : List ByteArray} (h : Sl w A n c l) (hb : Below w.heap.size w w') : Sl w' A n c l := ⟨h.1, h.2.1, h.2.2.1, h.2.2.2.below hb⟩
theorem StrArg.sl {w : World} {A : Option Addr} {n c : Nat} {l : List ByteArray} (h : StrArg w A n c l) : Sl w A n c l := ⟨h.1, h.2.1, by have := h.2.2.1; omega, h.2.2.2⟩
theorem sl_nil (w : World) : Sl w none 0 0 [] := ⟨rfl, Nat.le_refl _, by omega, Rd.nil_ _ _⟩

/-- a slice comes back that reads as the list; nothing that was there has turned -/
def RetSl (w : World) (l : List ByteArray) (e : Ending) (w' : World) : Prop := ∃ A n c, e = .returned (.slice A n c) ∧ Sl w' A n c l ∧ Below w.heap.size w w'
theorem retSl_own {w w' : World} {l : List ByteArray} {e : Ending} {t : TypeId} (h : ∃ v : Value, e = .returned v ∧ w'.ownsRow w.heap.size t 1 v l.length (l.map Value.string) ∧ Below w.heap.size w w') : RetSl w l e w' := by
  obtain ⟨v, rfl, ho, hb⟩ := h
  obtain ⟨A, c, rfl, h1, h2⟩ := own_form ho
  exact ⟨A, l.length, c, rfl, ⟨rfl, h1, by simpa [maxLen] using h2, Rd.of_own ho⟩, hb⟩

/-- a text as a list of letters -/
def lets (l : List UInt8) : List ByteArray := l.map fun c => ⟨#[c]⟩
theorem range_lets (l : List UInt8) : ((List.range (ByteArray.mk l.toArray).size).map fun i => (ByteArray.mk l.toArray).extract i (i + 1)) = lets l := by
  apply List.ext_getElem
  · simp [lets, ByteArray.size]
  · intro i h1 h2
    have hi : i < l.length := by simpa [lets] using h2
    simp only [List.getElem_map, List.getElem_range, lets]
    apply ByteArray.ext
    simp only [ByteArray.data_extract]
    apply Array.ext'
    simp only [List.extract_toArray, List.extract_eq_take_drop]
    rw [show i + 1 - i = 1 by omega, List.drop_eq_getElem_cons hi]
    rfl
theorem ex1 : Sq.mrg (lets [97, 98, 99]) (lets [97, 120, 98, 99]) (lets [97, 98, 99, 121]) = some (lets [97, 120, 98, 99, 121]) := by decide +kernel
theorem ex2 : Sq.mrg (lets [97, 98, 99]) (lets [97, 98]) (lets [97, 98, 99, 100]) = none := by decide +kernel
theorem ex3 : Sq.mrg (lets [97, 98, 99]) (lets [97, 99]) (lets [97, 99]) = some (lets [97, 99]) := by decide +kernel
theorem ex4 : Sq.mrg (lets [97, 98]) (lets [98, 97]) (lets [97, 98]) = some (lets [98, 97]) := by decide +kernel
theorem ex5 : Sq.com (lets [97, 98, 99, 97, 98]) (lets [98, 97, 98]) = lets [98, 97, 98] := by decide +kernel

theorem letters_sl (l : List UInt8) (w : World) (hl : l.length ≤ 100) : Calls Try.prog 21 #[.string ⟨l.toArray⟩] w (RetSl w (lets l)) := by
  refine (letters_any ⟨l.toArray⟩ w (by simpa [ByteArray.size] using hl)).mono fun e w' h => retSl_own (t := 9) ?_
  rw [range_lets] at h
  simpa [lets, ByteArray.size] using h

def RetM (w : World) (b o t : List ByteArray) (e : Ending) (w' : World) : Prop := Below w.heap.size w w' ∧
  match Sq.mrg b o t with
  | none => e = .returned (.tuple #[.slice none 0 0, .bool false])
  | some l => ∃ A n c, e = .returned (.tuple #[.slice A n c, .bool true]) ∧ Sl w' A n c l
theorem merge_sl (hm : MatchSaid) (A B C : Option Addr) (n1 n2 n3 c1 c2 c3 : Nat) (b o t : List ByteArray) (w : World) (h1 : Sl w A n1 c1 b) (h2 : Sl w B n2 c2 o) (h3 : Sl w C n3 c3 t) (lb : b.length ≤ 2000) (lo : o.length ≤ 2000) (lt : t.length ≤ 2000) :
    Calls Try.prog 11 #[.slice A n1 c1, .slice B n2 c2, .slice C n3 c3] w (RetM w b o t) := by
  obtain ⟨a1, a2, a3, a4⟩ := h1
  obtain ⟨b1, b2, b3, b4⟩ := h2
  obtain ⟨d1, d2, d3, d4⟩ := h3
  refine (merge_any hm A B C c1 c2 c3 b o t n1 n2 n3 w a1 b1 d1 lb lo lt (by omega) (by omega) (by omega) a3 b3 d3 a4 b4 d4).mono fun e w' h => ?_
  refine ⟨h.1, ?_⟩
  have h' := h.2
  cases hq : Sq.mrg b o t with
  | none => rw [hq] at h'; exact h'
  | some l =>
    rw [hq] at h'
    obtain ⟨v, rfl, ho⟩ := h'
    obtain ⟨A, c, rfl, k1, k2⟩ := own_form ho
    exact ⟨A, l.length, c, rfl, rfl, k1, by simpa [maxLen] using k2, Rd.of_own ho⟩
theorem RetM.some_ {w w' : World} {b o t l : List ByteArray} {e : Ending} (h : RetM w b o t e w') (hq : Sq.mrg b o t = some l) : ∃ A n c, e = .returned (.tuple #[.slice A n c, .bool true]) ∧ Sl w' A n c l ∧ Below w.heap.size w w' := by
  obtain ⟨h1, h2⟩ := h
  rw [hq] at h2
  obtain ⟨A, n, c, e1, e2⟩ := h2
  exact ⟨A, n, c, e1, e2, h1⟩
theorem RetM.none_ {w w' : World} {b o t : List ByteArray} {e : Ending} (h : RetM w b o t e w') (hq : Sq.mrg b o t = none) : e = .returned (.tuple #[.slice none 0 0, .bool false]) ∧ Below w.heap.size w w' := by
  obtain ⟨h1, h2⟩ := h
  rw [hq] at h2
  exact ⟨h2, h1⟩
theorem common_sl (hm : MatchSaid) (A B : Option Addr) (n1 n2 c1 c2 : Nat) (a b : List ByteArray) (w : World) (h1 : Sl w A n1 c1 a) (h2 : Sl w B n2 c2 b) (la : a.length ≤ 2000) (lb : b.length ≤ 2000) :
    Calls Try.prog 14 #[.slice A n1 c1, .slice B n2 c2] w (RetSl w (Sq.com a b)) :=
  (common_any hm A B c1 c2 a b n1 n2 w h1.1 h2.1 la lb h1.2.2.2 h2.2.2.2).mono fun _ _ h => retSl_own h
theorem same_sl (bb : Bool) (A B : Option Addr) (n1 n2 c1 c2 : Nat) (a b : List ByteArray) (w : World) (h1 : Sl w A n1 c1 a) (h2 : Sl w B n2 c2 b) (hb : sameF a b = bb) :
    Calls Try.prog 13 #[.slice A n1 c1, .slice B n2 c2] w fun e w' => e = .returned (.bool bb) ∧ Dr w w' := by
  subst hb
  exact same_any A B c1 c2 a b n1 n2 w h1.1 h2.1 (by have := h1.1; have := h1.2.1; have := h1.2.2.1; omega) (by have := h2.1; have := h2.2.1; have := h2.2.2.1; omega) h1.2.2.2 h2.2.2.2
end Go.Proofs.Ytkklpmfjbkapiaa
