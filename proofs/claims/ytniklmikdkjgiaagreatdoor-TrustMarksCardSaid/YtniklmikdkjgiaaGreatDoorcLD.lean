import Derived.Test.YtniklmikdkjgiaaGreatDoorcXI
set_option linter.unusedSimpArgs false
set_option linter.unusedVariables false

set_option maxRecDepth 100000
namespace Go.Proofs.YtniklmikdkjgiaaGreatDoor
open Go.RowKit
variable {P : Program} {ops : Array Oper} {Q : Exit → Act → World → Prop} {md : Region.Mode} {S : World → Prop}
theorem ldW (i : Nat) {oi : Oper} {fuel : Nat} {listed : Array Bool} {a : Act} {w : World} (ty : TypeId) (x : Operand) (b o : Nat) (cs : List Value) (d : TypeDesc) (hc : ∀ w, S w → w.rangeAt b o cs) (hu : P.underlying ty = some d) (hz : (P.info? ty).map (·.size) = some cs.length)
    (h : wpAnyH P md ops Q S fuel (listed.setIfInBounds i true) (a.put oi.dst (.agg cs.toArray)) w)
    (hi : ops[i]? = some oi := by rfl) (hs : Region.noSelect ops = true := by kernel_rfl) (hf : Region.free md ops listed i = true := by kernel_rfl)
    (hr : (Region.ready md ops listed).contains i = true := by kernel_rfl)
    (hQ : ∀ c a w, Q (.panic c) (a.put oi.dst (.agg cs.toArray)) w → Q (.panic c) a w := by exact fun _ _ _ h => h)
    (hS : S w := by assumption)
    (ho : oi.op = .load ty x := by rfl) (hx : a.eval x = .pointer (some ⟨b, o, none⟩) := by rfl) (hd : d.isRow = true := by rfl)
    (hw : Region.wanted oi (yielded ops a.tmps) = true := by (first | rfl | (simp [Region.wanted, yielded]; done))) : wpAnyH P md ops Q S (fuel + 1) listed a w :=
  wpAnyH_take hi hs hf hr hQ (yieldsIf_load_mid hw ty x ho b o hx cs d hc hu hd hz) hS h

end Go.Proofs.YtniklmikdkjgiaaGreatDoor
