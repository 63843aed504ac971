import Derived.Test.YtniklmikdkjgiaaGreatDoorcXJ
import Derived.Test.YtniklmikdkjgiaaGreatDoorcXQ
import Derived.Test.YtniklmikdkjgiaaGreatDoorcYR
import Derived.BigGuard
import Derived.BigCall
set_option linter.all false
set_option maxHeartbeats 16000000
set_option maxRecDepth 100000
namespace Go.Proofs.YtniklmikdkjgiaaGreatDoor
open Go.RowKit
def recT : Tx := [114, 101, 99, 111, 114, 100]
def pubF (c : Rc) : List Tx := [recT, Dg.dec c.kind.toNat, Dg.dec c.author.toNat, Dg.dec c.number.toNat, Dg.dec c.clock.toNat, c.branch] ++ (Dg.dec c.parents.length :: c.parents) ++ [(rtextF c.edits).1, c.target, Dg.dec (if c.yes then 1 else 0), Dg.dec c.order.toNat, c.frm]
structure PosR (c : Rc) : Prop where
  kind : 0 ≤ c.kind ∧ c.kind ≤ 1000000000
  author : 0 ≤ c.author ∧ c.author ≤ 1000000000
  number : 0 ≤ c.number ∧ c.number ≤ 1000000000
  clock : 0 ≤ c.clock ∧ c.clock ≤ 1000000000
  order : 0 ≤ c.order ∧ c.order ≤ 1000000000
theorem AddE.below {b B W0 : Nat} {U u : World} {l : List Tx} (h : AddE b B U none l u) (h1 : W0 ≤ b) (h2 : W0 ≤ U.heap.size) : Below W0 U u := by
  obtain ⟨v, h⟩ := h
  exact ⟨h.os, h.tape, h.output, h.size, fun k hk => h.kp k (by omega) (by omega) (by simp)⟩
theorem rd2_of {w U : World} {b : Nat} {A : Option Addr} {xs : List Value} (h : Rd w A xs) (hb : w.heap.size ≤ b) (k : Below w.heap.size w U) : Rd2 U b none A xs := fun h0 => by
  obtain ⟨g, off, e, hg, hc⟩ := h h0
  exact ⟨g, off, e, Nat.lt_of_lt_of_le hg k.size, by omega, by simp, fun i u hu => (cell_same (p := ⟨g, off + i, none⟩) (k.block g hg)).trans (hc i u hu)⟩
theorem public_any (r : RV) (w : World) (h : RvIs w r) (hs : RcSz r.c) (hp : PosR r.c) (ht : Tab w) :
    Calls Tryz.prog 68 #[.agg (rvL r).toArray] w fun e w' => ∃ v, e = .returned v ∧ w'.ownsRow w.heap.size 9 1 v (pubF r.c).length (strsC (pubF r.c)) ∧ Below w.heap.size w w' := by
  obtain ⟨A0, c0, v0, r0⟩ := h.pa
  obtain ⟨A1, c1, v1, r1⟩ := h.ed
  obtain ⟨k1, hk1⟩ : ∃ k : Nat, r.kind = (k : Int) := ⟨r.kind.toNat, by have : 0 ≤ r.kind := hp.kind.1; omega⟩
  obtain ⟨k2, hk2⟩ : ∃ k : Nat, r.author = (k : Int) := ⟨r.author.toNat, by have : 0 ≤ r.author := hp.author.1; omega⟩
  obtain ⟨k3, hk3⟩ : ∃ k : Nat, r.number = (k : Int) := ⟨r.number.toNat, by have : 0 ≤ r.number := hp.number.1; omega⟩
  obtain ⟨k4, hk4⟩ : ∃ k : Nat, r.clock = (k : Int) := ⟨r.clock.toNat, by have : 0 ≤ r.clock := hp.clock.1; omega⟩
  obtain ⟨k5, hk5⟩ : ∃ k : Nat, r.order = (k : Int) := ⟨r.order.toNat, by have : 0 ≤ r.order := hp.order.1; omega⟩
  have y1 : k1 ≤ 1000000000 := by have : r.kind ≤ 1000000000 := hp.kind.2; omega
  have y2 : k2 ≤ 1000000000 := by have : r.author ≤ 1000000000 := hp.author.2; omega
  have y3 : k3 ≤ 1000000000 := by have : r.number ≤ 1000000000 := hp.number.2; omega
  have y4 : k4 ≤ 1000000000 := by have : r.clock ≤ 1000000000 := hp.clock.2; omega
  have y5 : k5 ≤ 1000000000 := by have : r.order ≤ 1000000000 := hp.order.2; omega
  obtain ⟨W, hW⟩ : ∃ W, W = w.alloc (.cells (rvL r).toArray 56) := ⟨_, rfl⟩
  obtain ⟨F, hF⟩ : ∃ F, F = W.alloc (.cells #[.slice none 0 0] 103) := ⟨_, rfl⟩
  have BW : Below w.heap.size w F := by rw [hF, hW]; exact ((Below.refl _ _).alloc (Nat.le_refl _) _).alloc (by simp) _
  have XW : W.heap[w.heap.size]? = some (.cells (rvL r).toArray 56 (0, 0)) := by rw [hW]; exact heap_alloc_new w _
  have XF : F.heap[w.heap.size]? = some (.cells (rvL r).toArray 56 (0, 0)) := by rw [hF]; exact (alloc_old _ _ (lt_of_block XW)).trans XW
  have WZ : W.heap.size = w.heap.size + 1 := by rw [hW]; simp
  have XB : F.heap[w.heap.size + 1]? = some (.cells #[.slice none 0 0] 103 (0, 0)) := by rw [hF, ← WZ]; exact heap_alloc_new W _
  have XFL := lt_of_block XF
  have XBL := lt_of_block XB
  have XA := fun u (hu : OldB F u) => (hu.block w.heap.size XFL).trans XF
  have a0 : ∀ u, OldB F u → u.cell? ⟨w.heap.size, 0, none⟩ = some (.int .i64 (k1 : Int)) := fun u hu => by rw [← hk1]; exact load_block (XA u hu) (by rfl)
  have a1 : ∀ u, OldB F u → u.cell? ⟨w.heap.size, 1, none⟩ = some (.int .i64 (k2 : Int)) := fun u hu => by rw [← hk2]; exact load_block (XA u hu) (by rfl)
  have a2 : ∀ u, OldB F u → u.cell? ⟨w.heap.size, 2, none⟩ = some (.int .i64 (k3 : Int)) := fun u hu => by rw [← hk3]; exact load_block (XA u hu) (by rfl)
  have a3 : ∀ u, OldB F u → u.cell? ⟨w.heap.size, 3, none⟩ = some (.int .i64 (k4 : Int)) := fun u hu => by rw [← hk4]; exact load_block (XA u hu) (by rfl)
  have a4 : ∀ u, OldB F u → u.cell? ⟨w.heap.size, 4, none⟩ = some (.string (mkB r.branch)) := fun u hu => load_block (XA u hu) (by rfl)
  have a5 : ∀ u, OldB F u → u.cell? ⟨w.heap.size, 5, none⟩ = some (.slice A0 r.parents.length c0) := fun u hu => by rw [← v0]; exact load_block (XA u hu) (by rfl)
  have a6 : ∀ u, OldB F u → u.cell? ⟨w.heap.size, 6, none⟩ = some (.slice A1 r.edits.length c1) := fun u hu => by rw [← v1]; exact load_block (XA u hu) (by rfl)
  have a7 : ∀ u, OldB F u → u.cell? ⟨w.heap.size, 7, none⟩ = some (.string (mkB r.target)) := fun u hu => load_block (XA u hu) (by rfl)
  have a8 : ∀ u, OldB F u → u.cell? ⟨w.heap.size, 8, none⟩ = some (.bool r.yes) := fun u hu => load_block (XA u hu) (by rfl)
  have a9 : ∀ u, OldB F u → u.cell? ⟨w.heap.size, 9, none⟩ = some (.int .i64 (k5 : Int)) := fun u hu => by rw [← hk5]; exact load_block (XA u hu) (by rfl)
  have a10 : ∀ u, OldB F u → u.cell? ⟨w.heap.size, 10, none⟩ = some (.string (mkB r.frm)) := fun u hu => load_block (XA u hu) (by rfl)
  have TX := rtext_any A1 r.edits.length c1 r.edits F rfl (r1.below BW) (ht.keep BW)
  have PF : Hid (pubF r.c = ([.s recT, .n k1, .n k2, .n k3, .n k4, .s r.branch, .l A0 c0 r.parents, .s (rtextF (edsC r.edits)).1, .s r.target, .b r.yes, .n k5, .s r.frm] : List It).flatMap itF) := Lib.hid (by
    unfold pubF
    rw [show r.c.kind = (k1 : Int) from hk1, show r.c.author = (k2 : Int) from hk2, show r.c.number = (k3 : Int) from hk3, show r.c.clock = (k4 : Int) from hk4, show r.c.order = (k5 : Int) from hk5]
    simp only [List.flatMap_cons, List.flatMap_nil, itF, Int.toNat_natCast, List.cons_append, List.nil_append, List.append_nil, List.append_assoc]
    rfl)
  obtain ⟨tx, htx⟩ : ∃ tx, (rtextF (edsC r.edits)).1 = tx := ⟨_, rfl⟩
  obtain ⟨ok, hok⟩ : ∃ ok, (rtextF (edsC r.edits)).2 = ok := ⟨_, rfl⟩
  rw [htx] at TX PF
  rw [hok] at TX
  have TXH := Lib.hid TX
  have AC : Hid (∀ u, OldB F u → Calls Tryz.prog 111 #[.pointer (some ⟨w.heap.size + 1, 0, none⟩), .slice (some ⟨u.heap.size, 0, none⟩) 12 12] (u.alloc (.cells #[.iface 9 (.string ⟨#[114, 101, 99, 111, 114, 100]⟩), .iface 3 (.int .i64 (k1 : Int)), .iface 3 (.int .i64 (k2 : Int)), .iface 3 (.int .i64 (k3 : Int)), .iface 3 (.int .i64 (k4 : Int)), .iface 9 (.string (mkB r.branch)), .iface 35 (.slice A0 r.parents.length c0), .iface 9 (.string (mkB tx)), .iface 9 (.string (mkB r.target)), .iface 4 (.bool r.yes), .iface 3 (.int .i64 (k5 : Int)), .iface 9 (.string (mkB r.frm))] 20)) fun e w' => e = .returned (.tuple #[]) ∧ ∃ v, AddI (w.heap.size + 1) (w.heap.size + 1) (u.alloc (.cells #[.iface 9 (.string ⟨#[114, 101, 99, 111, 114, 100]⟩), .iface 3 (.int .i64 (k1 : Int)), .iface 3 (.int .i64 (k2 : Int)), .iface 3 (.int .i64 (k3 : Int)), .iface 3 (.int .i64 (k4 : Int)), .iface 9 (.string (mkB r.branch)), .iface 35 (.slice A0 r.parents.length c0), .iface 9 (.string (mkB tx)), .iface 9 (.string (mkB r.target)), .iface 4 (.bool r.yes), .iface 3 (.int .i64 (k5 : Int)), .iface 9 (.string (mkB r.frm))] 20)) none v (pubF r.c) w' ∧ Below w.heap.size w w') := Lib.hid (fun u hu => by
    have o2 : OldB F (u.alloc (.cells #[.iface 9 (.string ⟨#[114, 101, 99, 111, 114, 100]⟩), .iface 3 (.int .i64 (k1 : Int)), .iface 3 (.int .i64 (k2 : Int)), .iface 3 (.int .i64 (k3 : Int)), .iface 3 (.int .i64 (k4 : Int)), .iface 9 (.string (mkB r.branch)), .iface 35 (.slice A0 r.parents.length c0), .iface 9 (.string (mkB tx)), .iface 9 (.string (mkB r.target)), .iface 4 (.bool r.yes), .iface 3 (.int .i64 (k5 : Int)), .iface 9 (.string (mkB r.frm))] 20)) := hu.alloc _
    have b2 : Below w.heap.size w (u.alloc (.cells #[.iface 9 (.string ⟨#[114, 101, 99, 111, 114, 100]⟩), .iface 3 (.int .i64 (k1 : Int)), .iface 3 (.int .i64 (k2 : Int)), .iface 3 (.int .i64 (k3 : Int)), .iface 3 (.int .i64 (k4 : Int)), .iface 9 (.string (mkB r.branch)), .iface 35 (.slice A0 r.parents.length c0), .iface 9 (.string (mkB tx)), .iface 9 (.string (mkB r.target)), .iface 4 (.bool r.yes), .iface 3 (.int .i64 (k5 : Int)), .iface 9 (.string (mkB r.frm))] 20)) := BW.trans (Below.mono o2 BW.size)
    have bx := (o2.block (w.heap.size + 1) XBL).trans XB
    have uz : w.heap.size + 1 < u.heap.size := Nat.lt_of_lt_of_le XBL hu.size
    have ST := AddI.start (b := w.heap.size + 1) (B := w.heap.size + 1) (l := []) bx (World.ownsRow_nil _ _ _ _) (by intro e; cases e)
    refine (add_any (w.heap.size + 1) (w.heap.size + 1) (.slice none 0 0) [] [.s recT, .n k1, .n k2, .n k3, .n k4, .s r.branch, .l A0 c0 r.parents, .s tx, .s r.target, .b r.yes, .n k5, .s r.frm] (some ⟨u.heap.size, 0, none⟩) 12 12 _ rfl (by decide) (by simp; omega) (by simp) ST (fun _ => ⟨u.heap.size, 0, rfl, by simp, by omega, (by intro e; cases e), fun j q hq => ?_⟩) (fun t ht => ?_) (fun o x hx => ht.keep (b2.trans (Below.mono (AddE.below hx (Nat.le_refl _) (by simp; omega)) (by omega))))).mono ?_
    · have := cell_of_row _ u.heap.size (0 + j) _ _ _ (heap_alloc_new u (.cells #[.iface 9 (.string ⟨#[114, 101, 99, 111, 114, 100]⟩), .iface 3 (.int .i64 (k1 : Int)), .iface 3 (.int .i64 (k2 : Int)), .iface 3 (.int .i64 (k3 : Int)), .iface 3 (.int .i64 (k4 : Int)), .iface 9 (.string (mkB r.branch)), .iface 35 (.slice A0 r.parents.length c0), .iface 9 (.string (mkB tx)), .iface 9 (.string (mkB r.target)), .iface 4 (.bool r.yes), .iface 3 (.int .i64 (k5 : Int)), .iface 9 (.string (mkB r.frm))] 20))
      rw [this, Nat.zero_add, ← Array.getElem?_toList]
      exact hq
    · simp only [List.mem_cons, List.not_mem_nil, or_false] at ht
      rcases ht with rfl | rfl | rfl | rfl | rfl | rfl | rfl | rfl | rfl | rfl | rfl | rfl
      · trivial
      · exact y1
      · exact y2
      · exact y3
      · exact y4
      · trivial
      · exact ⟨hs.parents, rd2_of r0 (by omega) b2⟩
      · trivial
      · trivial
      · trivial
      · exact y5
      · trivial
    · rintro e w' ⟨rfl, v, hx⟩
      refine ⟨rfl, v, ?_, b2.trans (Below.mono (AddE.below ⟨v, hx⟩ (Nat.le_refl _) (by simp; omega)) (by omega))⟩
      rw [PF.out]
      exact hx)
  have BF : Hid (∀ u, OldB F u → Below w.heap.size w u) := Lib.hid (fun u hu => BW.trans (Below.mono hu BW.size))
  have SW : OldB F F := Below.refl _ _
  have hF0 := Lib.hid hF
  have hW0 := Lib.hid hW
  have WZ0 := Lib.hid WZ
  generalize pubF r.c = PP at *
  generalize (rvL r).toArray = xs at *
  clear h hs hp ht v0 v1 r0 r1 hk1 hk2 hk3 hk4 hk5 y1 y2 y3 y4 y5 BW XW XF XB XFL XBL XA TX PF htx hok hF hW WZ
  go_enter Tryz.func68, Tryz.ntmps68
  go_upto_region 2 with fail
  rw [← hW0.out, ← hF0.out]
  try rw [WZ0.out]
  clear hW0 hF0
  go_wp2_with fail
  (with_reducible refine TXH.out.mono ?_)
  rintro e u1 ⟨rfl, b1⟩
  have O1 : OldB F u1 := SW.then b1
  have A2 := Lib.hid (AC.out u1 O1)
  clear b1 SW TXH AC
  go_wp2_with fail
  (with_reducible refine A2.out.mono ?_)
  rintro e u2 ⟨rfl, v2, AI, b2⟩
  have cb := load_block (i := 0) AI.box rfl
  have HO := Lib.hid (own_baseG (B' := w.heap.size) (by omega) AI.own)
  have B2 := Lib.hid b2
  clear A2 AI b2 O1
  go_wp2_with fail
  go_ret
  exact ⟨_, rfl, HO.out, B2.out⟩
end Go.Proofs.YtniklmikdkjgiaaGreatDoor
namespace Go.Proofs.YtniklmikdkjgiaaGreatDoor
open Go.RowKit
theorem textGo_len : ∀ (l : List Ed) (acc : Tx), acc.length ≤ 20000 → (textGo acc l).1.length ≤ 20000
  | [], acc, h => h
  | e :: l, acc, h => by
    unfold textGo
    split
    · split
      · exact Nat.zero_le _
      · exact textGo_len l _ (by omega)
    · exact Nat.zero_le _
theorem rtextF_len (l : List Ed) : (rtextF l).1.length ≤ 20000 := by
  unfold rtextF changeTextF
  split
  · exact Nat.zero_le _
  · dsimp only
    split
    · exact textGo_len l [] (Nat.zero_le _)
    · exact Nat.zero_le _
theorem finR_order {r : Rc} {t : Tx} {y : Bool} {o : Int} {f : Tx} {ed need : Bool} (h : finR r t y o f ed need = true) : r.order = o := by
  unfold finR at h
  simp only [Bool.and_eq_true, beq_iff_eq] at h
  exact h.1.1.1.2
theorem kindR_pos {r : Rc} (h : kindR r = true) : (1 ≤ r.kind ∧ r.kind ≤ 5) ∧ (0 ≤ r.order ∧ r.order ≤ 4) := by
  unfold kindR at h
  split at h
  · next e => have := finR_order h; omega
  split at h
  · next e => have := finR_order h; omega
  split at h
  · next e =>
    rw [Bool.and_eq_true] at h
    have := h.1
    unfold inB at this
    simp only [Bool.and_eq_true, decide_eq_true_eq] at this
    omega
  split at h
  · next e =>
    rw [Bool.and_eq_true] at h
    have := finR_order h.2; omega
  split at h
  · next e => have := finR_order h; omega
  · cases h
theorem validR_pos {r : Rc} (h : validR r = true) : PosR r ∧ r.parents.length ≤ 16 := by
  unfold validR at h
  simp only [Bool.and_eq_true] at h
  obtain ⟨⟨⟨-, h1⟩, -⟩, h2⟩ := h
  have k := kindR_pos h2
  simp only [Bool.not_eq_true', Bool.or_eq_false_iff, Bool.not_eq_false', decide_eq_false_iff_not] at h1
  obtain ⟨⟨⟨⟨⟨⟨p1, p2⟩, p3⟩, -⟩, p4⟩, -⟩, -⟩ := h1
  unfold inB at p1 p2 p3
  simp only [Bool.and_eq_true, decide_eq_true_eq] at p1 p2 p3
  exact ⟨⟨⟨by omega, by omega⟩, ⟨by omega, by omega⟩, ⟨by omega, by omega⟩, ⟨by omega, by omega⟩, ⟨by omega, by omega⟩⟩, Nat.le_of_not_lt p4⟩
theorem pubF_len (c : Rc) : (pubF c).length = 12 + c.parents.length := by
  unfold pubF
  simp only [List.length_append, List.length_cons, List.length_nil]
  omega
theorem pubF_le {c : Rc} (hs : RcSz c) (hp : PosR c) (hn : c.parents.length ≤ 16) : ∀ s ∈ pubF c, s.length ≤ 1000000 := by
  have D : ∀ z : Int, 0 ≤ z ∧ z ≤ 1000000000 → (Dg.dec z.toNat).length ≤ 1000000 := fun z hz => Nat.le_trans (dec_len 10 z.toNat (by omega) (by decide)) (by decide)
  intro s h
  unfold pubF at h
  simp only [List.mem_append, List.mem_cons, List.not_mem_nil, or_false] at h
  rcases h with ((rfl | rfl | rfl | rfl | rfl | rfl) | rfl | h) | rfl | rfl | rfl | rfl | rfl
  · decide
  · exact D _ hp.kind
  · exact D _ hp.author
  · exact D _ hp.number
  · exact D _ hp.clock
  · exact hs.branch
  · exact Nat.le_trans (dec_len 10 _ (by omega) (by decide)) (by decide)
  · exact hs.parent s h
  · exact Nat.le_trans (rtextF_len _) (by decide)
  · exact hs.target
  · exact Nat.le_trans (dec_len 10 _ (by split <;> omega) (by decide)) (by decide)
  · exact D _ hp.order
  · exact hs.frm
def idC (c : Rc) : Tx := if validR c then Dg.sumL (Dg.joined (pubF c)) else []
theorem id_any (r : RV) (w : World) (h : RvIs w r) (hs : RcSz r.c) (ht : Tab w) :
    Calls Tryz.prog 37 #[rvA r] w fun e w' => e = .returned (.string (mkB (idC r.c))) ∧ Below w.heap.size w w' := by
  unfold rvA
  obtain ⟨W, hW⟩ : ∃ W, W = w.alloc (.cells (rvL r).toArray 56) := ⟨_, rfl⟩
  have BW : Hid (Below w.heap.size w W) := Lib.hid (by rw [hW]; exact (Below.refl _ _).alloc (Nat.le_refl _) _)
  have HX : Hid (W.heap[w.heap.size]? = some (.cells (rvL r).toArray 56 (0, 0))) := Lib.hid (by rw [hW]; exact heap_alloc_new w _)
  have HZ : W.heap.size = w.heap.size + 1 := by rw [hW]; simp
  have BA : Hid (∀ u, OldB W u → Below w.heap.size w u) := Lib.hid (fun u hu => BW.out.trans (Below.mono hu BW.out.size))
  have RX : Hid (∀ u, OldB W u → u.rangeAt w.heap.size 0 (rvL r)) := Lib.hid (fun u hu => by have := range_of_row ((hu.block w.heap.size (by omega)).trans HX.out); simpa using this)
  have SZ : (Tryz.prog.info? 56).map (·.size) = some (rvL r).length := by kernel_rfl
  have VC := Lib.hid (fun u (hu : OldB W u) => rvalid_any r u (h.below (BA.out u hu)) hs (ht.keep (BA.out u hu)))
  unfold rvA at VC
  have SW : OldB W W := Below.refl _ _
  have PM : Hid (idC r.c = if validR r.c then Dg.sumL (Dg.joined (pubF r.c)) else []) := Lib.hid rfl
  have HH := Lib.hid h
  have HS := Lib.hid hs
  have HT := Lib.hid ht
  clear h hs ht
  go_enter Tryz.func37, Tryz.ntmps37
  go_upto_region 1 with fail
  rw [← hW]
  clear hW HX
  obtain ⟨q, hq⟩ : ∃ q, validR r.c = q := ⟨_, rfl⟩
  rw [hq] at VC
  go_wp2_with (refine wpList_load_mid rfl 56 (.tmp 1) rfl w.heap.size 0 rfl (rvL r) _ (RX.out W SW) Tryz.underlying56 rfl SZ ?_)
  (with_reducible refine (VC.out _ SW).mono ?_)
  rintro e u1 ⟨rfl, d1⟩
  have O1 : OldB W u1 := d1
  clear d1 VC
  cases q
  · have PE : Hid (idC r.c = []) := Lib.hid (by rw [PM.out, hq]; rfl)
    clear hq
    go_wp2_with fail
    rw [PE.out]
    exact bodyPost_ret (results_tmp (t := 2) rfl _ _ _) rfl ⟨rfl, BA.out _ O1⟩
  · have PE : Hid (idC r.c = Dg.sumL (Dg.joined (pubF r.c))) := Lib.hid (by rw [PM.out, hq]; rfl)
    obtain ⟨PP, PN⟩ := validR_pos hq
    have PC := Lib.hid (public_any r u1 (HH.out.below (BA.out _ O1)) HS.out PP (HT.out.keep (BA.out _ O1)))
    have LE := Lib.hid (pubF_le HS.out PP PN)
    have LN : Hid ((pubF r.c).length ≤ 28) := Lib.hid (by rw [pubF_len]; omega)
    clear hq PP PN
    go_wp2_with (refine wpList_load_mid rfl 56 (.tmp 1) rfl w.heap.size 0 rfl (rvL r) _ (RX.out _ O1) Tryz.underlying56 rfl SZ ?_)
    (with_reducible refine PC.out.mono ?_)
    rintro e u2 ⟨v, rfl, HV, d2⟩
    have O2 : OldB W u2 := O1.trans (Below.mono d2 O1.size)
    clear PC d2
    obtain ⟨A, c, rfl, hR, -⟩ := own_slG HV
    have JC := Lib.hid (fjoined_any A (pubF r.c).length c (pubF r.c) u2 rfl (by have := LN.out; omega) LE.out hR (HT.out.keep (BA.out _ O2)))
    clear hR HV
    go_wp2_with fail
    (with_reducible refine JC.out.mono ?_)
    rintro e u3 ⟨rfl, d3⟩
    have O3 : OldB W u3 := O2.trans (Below.mono d3 O2.size)
    clear d3 JC
    have SC := Lib.hid (sum_any (mkB (Dg.joined (pubF r.c))) u3 (by rw [Lib.size_eq, mkB_list]; have := joined_len _ LE.out; have := LN.out; omega))
    rw [mkB_list] at SC
    go_wp2_with fail
    (with_reducible refine SC.out.mono ?_)
    rintro e u4 ⟨rfl, d4⟩
    have O4 : OldB W u4 := O3.trans (Below.mono d4 O3.size)
    clear d4 SC
    go_wp2_with fail
    rw [PE.out]
    exact bodyPost_ret (results_tmp (t := 2) rfl _ _ _) rfl ⟨rfl, BA.out _ O4⟩
end Go.Proofs.YtniklmikdkjgiaaGreatDoor
namespace Go.Proofs.YtniklmikdkjgiaaGreatDoor
open Go.RowKit
end Go.Proofs.YtniklmikdkjgiaaGreatDoor
