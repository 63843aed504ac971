/- WORDS AND WALKS: atlas.pairs, and what it yields. -/
import Derived.Test.YtlejeelmlclnkaaGreatDoorCH0
import Derived.Test.YtlejeelmlclnkaaGreatDoorRF
import Derived.Shelf.Abstract
import Derived.Test.YtlejeelmlclnkaaGreatDoorWD
set_option linter.unusedSimpArgs false
set_option linter.unusedVariables false
namespace Go.Proofs.YtlejeelmlclnkaaGreatDoor
open Go.RowKit Go.Shelf
attribute [local go_sem] Oper.semAt_some

/-- the pairs of two maps, with their slices -/
def pairsV : Nat → List RO → List RO → List DV
  | 0, _, _ => []
  | _ + 1, [], [] => []
  | f + 1, x :: a, [] => ⟨x.c.id, true, false, x, zeroRO⟩ :: pairsV f a []
  | f + 1, [], y :: b => ⟨y.c.id, false, true, zeroRO, y⟩ :: pairsV f [] b
  | f + 1, x :: a, y :: b =>
    if x.c.id = y.c.id then ⟨x.c.id, true, true, x, y⟩ :: pairsV f a b
    else if At.lt x.c.id y.c.id = true then ⟨x.c.id, true, false, x, zeroRO⟩ :: pairsV f a (y :: b)
    else ⟨y.c.id, false, true, zeroRO, y⟩ :: pairsV f (x :: a) b
theorem pairsV_d : ∀ (f : Nat) (a b : List RO), (pairsV f a b).map DV.d = At.pairsF f (cts a) (cts b)
  | 0, _, _ => by simp [pairsV, At.pairsF]
  | _ + 1, [], [] => by simp [pairsV, At.pairsF, cts]
  | f + 1, x :: a, [] => by
    have := pairsV_d f a []
    simp only [pairsV, List.map_cons, this]; rfl
  | f + 1, [], y :: b => by
    have := pairsV_d f [] b
    simp only [pairsV, List.map_cons, this]; rfl
  | f + 1, x :: a, y :: b => by
    have h1 := pairsV_d f a b
    have h2 := pairsV_d f a (y :: b)
    have h3 := pairsV_d f (x :: a) b
    show (pairsV (f + 1) (x :: a) (y :: b)).map DV.d = At.pairsF (f + 1) (x.c :: cts a) (y.c :: cts b)
    rw [pairsV, At.pairsF]
    split
    · rw [List.map_cons, h1]; rfl
    · split
      · rw [List.map_cons, h2]; rfl
      · rw [List.map_cons, h3]; rfl
theorem pairsV_len : ∀ (f : Nat) (a b : List RO), (pairsV f a b).length ≤ f
  | 0, _, _ => by simp [pairsV]
  | _ + 1, [], [] => by simp [pairsV]
  | f + 1, x :: a, [] => by have := pairsV_len f a []; simp [pairsV]; omega
  | f + 1, [], y :: b => by have := pairsV_len f [] b; simp [pairsV]; omega
  | f + 1, x :: a, y :: b => by
    have h1 := pairsV_len f a b
    have h2 := pairsV_len f a (y :: b)
    have h3 := pairsV_len f (x :: a) b
    rw [pairsV]
    split
    · simp; omega
    · split <;> (simp; omega)
theorem pairsV_mem : ∀ (f : Nat) (a b : List RO) (d : DV), d ∈ pairsV f a b → (d.o ∈ a ∨ d.o = zeroRO) ∧ (d.n ∈ b ∨ d.n = zeroRO) ∧ (d.id = d.o.c.id ∨ d.id = d.n.c.id)
  | 0, _, _, d, h => by simp [pairsV] at h
  | _ + 1, [], [], d, h => by simp [pairsV] at h
  | f + 1, x :: a, [], d, h => by
    rw [pairsV] at h
    rcases List.mem_cons.1 h with rfl | h
    · exact ⟨.inl (by simp), .inr rfl, .inl rfl⟩
    · obtain ⟨h1, h2, h3⟩ := pairsV_mem f a [] d h
      exact ⟨h1.imp (List.mem_cons_of_mem _) id, h2, h3⟩
  | f + 1, [], y :: b, d, h => by
    rw [pairsV] at h
    rcases List.mem_cons.1 h with rfl | h
    · exact ⟨.inr rfl, .inl (by simp), .inr rfl⟩
    · obtain ⟨h1, h2, h3⟩ := pairsV_mem f [] b d h
      exact ⟨h1, h2.imp (List.mem_cons_of_mem _) id, h3⟩
  | f + 1, x :: a, y :: b, d, h => by
    rw [pairsV] at h
    split at h
    · rcases List.mem_cons.1 h with rfl | h
      · exact ⟨.inl (by simp), .inl (by simp), .inl rfl⟩
      · obtain ⟨h1, h2, h3⟩ := pairsV_mem f a b d h
        exact ⟨h1.imp (List.mem_cons_of_mem _) id, h2.imp (List.mem_cons_of_mem _) id, h3⟩
    · split at h
      · rcases List.mem_cons.1 h with rfl | h
        · exact ⟨.inl (by simp), .inr rfl, .inl rfl⟩
        · obtain ⟨h1, h2, h3⟩ := pairsV_mem f a (y :: b) d h
          exact ⟨h1.imp (List.mem_cons_of_mem _) id, h2, h3⟩
      · rcases List.mem_cons.1 h with rfl | h
        · exact ⟨.inr rfl, .inl (by simp), .inr rfl⟩
        · obtain ⟨h1, h2, h3⟩ := pairsV_mem f (x :: a) b d h
          exact ⟨h1, h2.imp (List.mem_cons_of_mem _) id, h3⟩
theorem row_setCell {w : World} {b i : Nat} {cs : Array Value} {t : TypeId} (v : Value) (h : w.heap[b]? = some (.cells cs t (0, 0))) : (w.setCell ⟨b, i, none⟩ v).heap[b]? = some (.cells (cs.setIfInBounds i v) t (0, 0)) := by
  simp [World.setCell, Array.getElem?_modify, h]
theorem pairs_any (A B : Option Addr) (n c m d : Nat) (w : World) :
    Calls Tryz.prog 49 #[.agg #[.slice A n c], .agg #[.slice B m d]] w fun e w' => e = .returned (.func (.func 88) #[] #[.pointer (some ⟨w.heap.size, 0, none⟩), .pointer (some ⟨w.heap.size + 1, 0, none⟩)]) ∧ (w.alloc (.cells #[.slice A n c] 24)).alloc (.cells #[.slice B m d] 24) = w' := by
  go_enter Tryz.func49, Tryz.ntmps49
  go_wp2_with fail
  go_ret
  exact ⟨rfl, rfl⟩
theorem ros_head {w : World} {A : Option Addr} {x : RO} {l : List RO} (h : Rd w A (rosC (x :: l))) :
    ∃ b off, A = some ⟨b, off, none⟩ ∧ b < w.heap.size ∧ w.cell? ⟨b, off, none⟩ = some (.string (mkB x.c.id)) ∧ w.cell? ⟨b, off + 1, none⟩ = some (.int .i64 x.c.kind) ∧ w.cell? ⟨b, off + 2, none⟩ = some (.int .i64 x.c.x) ∧ w.cell? ⟨b, off + 3, none⟩ = some (.int .i64 x.c.y) ∧ w.cell? ⟨b, off + 4, none⟩ = some x.rv ∧ w.cell? ⟨b, off + 5, none⟩ = some x.tv := by
  obtain ⟨b, off, e, hb, h0, h1, h2, h3, h4, h5⟩ := ros_at h (k := 0) (by simp)
  simp only [Nat.zero_mul, Nat.add_zero, List.getElem_cons_zero] at h0 h1 h2 h3 h4 h5
  exact ⟨b, off, e, hb, h0, h1, h2, h3, h4, h5⟩
/-- what is left behind the head -/
theorem ros_tail {w : World} {b off c : Nat} {x : RO} {l : List RO} (h : Rd w (some ⟨b, off, none⟩) (rosC (x :: l))) (hc : (x :: l).length ≤ c) : Rd w (if c = 1 then some ⟨b, off, none⟩ else some ⟨b, off + 6, none⟩) (rosC l) := by
  have := rd_from (p := 1) h (by simp) hc
  simpa [Addr.add_lit] using this
def slN : Value → Nat
  | .slice _ n _ => n
  | _ => 0
/-- between two rounds: what is left of both maps -/
structure PI (w0 : World) (J : List DV → World → Prop) (all : List DV) (N : Nat) (A1 : Option Addr) (n1 c1 : Nat) (A2 : Option Addr) (n2 c2 : Nat) (wr : World) (f : Nat) (a b : List RO) (pre : List DV) : Prop where
  ra : Rd w0 A1 (rosC a)
  rb : Rd w0 A2 (rosC b)
  oa : ∀ r ∈ a, ObIs w0 r ∧ ObSz r.c ∧ r.c.refs.length ≤ 100000
  ob : ∀ r ∈ b, ObIs w0 r ∧ ObSz r.c ∧ r.c.refs.length ≤ 100000
  na : n1 = a.length
  nb : n2 = b.length
  ca : n1 ≤ c1
  cb : n2 ≤ c2
  fuel : n1 + n2 ≤ f
  len : pre.length + f ≤ N
  all : all = pre ++ pairsV f a b
  inv : J pre wr
  old : Below w0.heap.size w0 wr
/-- a difference that lies well -/
def Gd (w0 : World) (x : DV) : Prop := DvIs w0 x ∧ DvSz x
theorem PI.step {w0 : World} {J : List DV → World → Prop} {all : List DV} {N : Nat} {A1 : Option Addr} {n1 c1 : Nat} {A2 : Option Addr} {n2 c2 : Nat} {wr : World} {f : Nat} {a b : List RO} {pre : List DV} (h : PI w0 J all N A1 n1 c1 A2 n2 c2 wr (f + 1) a b pre)
    {d : DV} {a' b' : List RO} (hp : pairsV (f + 1) a b = d :: pairsV f a' b') {A1' : Option Addr} {n1' c1' : Nat} {A2' : Option Addr} {n2' c2' : Nat} {W3 : World} (ra : Rd w0 A1' (rosC a')) (rb : Rd w0 A2' (rosC b')) (sa : ∀ r ∈ a', r ∈ a) (sb : ∀ r ∈ b', r ∈ b)
    (na : n1' = a'.length) (nb : n2' = b'.length) (ca : n1' ≤ c1') (cb : n2' ≤ c2') (hf : n1' + n2' < n1 + n2) (hJ : J (pre ++ [d]) W3) (hK : Below w0.heap.size wr W3) : PI w0 J all N A1' n1' c1' A2' n2' c2' W3 f a' b' (pre ++ [d]) :=
  ⟨ra, rb, fun r hr => h.oa r (sa r hr), fun r hr => h.ob r (sb r hr), na, nb, ca, cb, by have := h.fuel; omega, by have := h.len; simp; omega, by rw [h.all, hp]; simp, hJ, h.old.trans hK⟩
theorem drew_heap (w : World) : w.drew.heap = w.heap := rfl
theorem row_set {w : World} {b : Nat} {cs cs' : Array Value} {t : TypeId} (h : w.heap[b]? = some (.cells cs t (0, 0))) (i : Nat) (v : Value) (hc : cs.setIfInBounds i v = cs') : (w.setCell ⟨b, i, none⟩ v).heap[b]? = some (.cells cs' t (0, 0)) := hc ▸ row_setCell v h
theorem row4 {Y : World} {g : Nat} {T : TypeId} {a0 a1 a2 a3 a4 a5 a6 a7 a8 a9 a10 a11 a12 a13 a14 : Value} (h : Y.heap[g]? = some (.cells #[a0, a1, a2, a3, a4, a5, a6, a7, a8, a9, a10, a11, a12, a13, a14] T (0, 0))) (v0 v1 v3 v4 v5 v6 v7 v8 : Value) :
    ((((((((Y.setCell ⟨g, 0, none⟩ v0).setCell ⟨g, 1, none⟩ v1).setCell ⟨g, 3, none⟩ v3).setCell ⟨g, 4, none⟩ v4).setCell ⟨g, 5, none⟩ v5).setCell ⟨g, 6, none⟩ v6).setCell ⟨g, 7, none⟩ v7).setCell ⟨g, 8, none⟩ v8).drew.heap[g]? = some (.cells #[v0, v1, a2, v3, v4, v5, v6, v7, v8, a9, a10, a11, a12, a13, a14] T (0, 0)) := by
  rw [drew_heap]
  have h0 := row_set (cs' := #[v0, a1, a2, a3, a4, a5, a6, a7, a8, a9, a10, a11, a12, a13, a14]) h 0 v0 rfl
  have h1 := row_set (cs' := #[v0, v1, a2, a3, a4, a5, a6, a7, a8, a9, a10, a11, a12, a13, a14]) h0 1 v1 rfl
  have h2 := row_set (cs' := #[v0, v1, a2, v3, a4, a5, a6, a7, a8, a9, a10, a11, a12, a13, a14]) h1 3 v3 rfl
  have h3 := row_set (cs' := #[v0, v1, a2, v3, v4, a5, a6, a7, a8, a9, a10, a11, a12, a13, a14]) h2 4 v4 rfl
  have h4 := row_set (cs' := #[v0, v1, a2, v3, v4, v5, a6, a7, a8, a9, a10, a11, a12, a13, a14]) h3 5 v5 rfl
  have h5 := row_set (cs' := #[v0, v1, a2, v3, v4, v5, v6, a7, a8, a9, a10, a11, a12, a13, a14]) h4 6 v6 rfl
  have h6 := row_set (cs' := #[v0, v1, a2, v3, v4, v5, v6, v7, a8, a9, a10, a11, a12, a13, a14]) h5 7 v7 rfl
  have h7 := row_set (cs' := #[v0, v1, a2, v3, v4, v5, v6, v7, v8, a9, a10, a11, a12, a13, a14]) h6 8 v8 rfl
  exact h7
theorem row6 {Y : World} {g : Nat} {T : TypeId} {a0 a1 a2 a3 a4 a5 a6 a7 a8 a9 a10 a11 a12 a13 a14 : Value} (h : Y.heap[g]? = some (.cells #[a0, a1, a2, a3, a4, a5, a6, a7, a8, a9, a10, a11, a12, a13, a14] T (0, 0))) (v0 v2 v9 v10 v11 v12 v13 v14 : Value) :
    ((((((((Y.setCell ⟨g, 0, none⟩ v0).setCell ⟨g, 2, none⟩ v2).setCell ⟨g, 9, none⟩ v9).setCell ⟨g, 10, none⟩ v10).setCell ⟨g, 11, none⟩ v11).setCell ⟨g, 12, none⟩ v12).setCell ⟨g, 13, none⟩ v13).setCell ⟨g, 14, none⟩ v14).drew.heap[g]? = some (.cells #[v0, a1, v2, a3, a4, a5, a6, a7, a8, v9, v10, v11, v12, v13, v14] T (0, 0)) := by
  rw [drew_heap]
  have h0 := row_set (cs' := #[v0, a1, a2, a3, a4, a5, a6, a7, a8, a9, a10, a11, a12, a13, a14]) h 0 v0 rfl
  have h1 := row_set (cs' := #[v0, a1, v2, a3, a4, a5, a6, a7, a8, a9, a10, a11, a12, a13, a14]) h0 2 v2 rfl
  have h2 := row_set (cs' := #[v0, a1, v2, a3, a4, a5, a6, a7, a8, v9, a10, a11, a12, a13, a14]) h1 9 v9 rfl
  have h3 := row_set (cs' := #[v0, a1, v2, a3, a4, a5, a6, a7, a8, v9, v10, a11, a12, a13, a14]) h2 10 v10 rfl
  have h4 := row_set (cs' := #[v0, a1, v2, a3, a4, a5, a6, a7, a8, v9, v10, v11, a12, a13, a14]) h3 11 v11 rfl
  have h5 := row_set (cs' := #[v0, a1, v2, a3, a4, a5, a6, a7, a8, v9, v10, v11, v12, a13, a14]) h4 12 v12 rfl
  have h6 := row_set (cs' := #[v0, a1, v2, a3, a4, a5, a6, a7, a8, v9, v10, v11, v12, v13, a14]) h5 13 v13 rfl
  have h7 := row_set (cs' := #[v0, a1, v2, a3, a4, a5, a6, a7, a8, v9, v10, v11, v12, v13, v14]) h6 14 v14 rfl
  exact h7
set_option maxRecDepth 100000 in
set_option maxHeartbeats 4000000 in
theorem pairs1 (A B : Option Addr) (n c m d : Nat) (a b : List RO) (Ba Bb l N : Nat) (w0 : World) (J Jx : List DV → World → Prop) (hn : n = a.length) (hm : m = b.length) (hl : n ≤ 100000) (hl2 : m ≤ 100000) (hN : N = n + m) (hc : n ≤ c) (hd : m ≤ d)
    (hA : Rd w0 A (rosC a)) (hB : Rd w0 B (rosC b)) (oa : ∀ r ∈ a, ObIs w0 r ∧ ObSz r.c ∧ r.c.refs.length ≤ 100000) (ob : ∀ r ∈ b, ObIs w0 r ∧ ObSz r.c ∧ r.c.refs.length ≤ 100000)
    (hY : ∀ pre x W, Gd w0 x → J pre W → pre.length < N → YieldAt Fence.wide 2 Tryz.prog l #[.agg (dvC x).toArray] W fun e W' =>
      (e = .returned (.bool true) ∧ J (pre ++ [x]) W' ∧ Below w0.heap.size W W') ∨ (e = .returned (.bool false) ∧ Jx (pre ++ [x]) W'))
    (W : World) (hW : Below w0.heap.size w0 W) (hJd : ∀ pre W1 W2, J pre W1 → Below W1.heap.size W1 W2 → J pre W2) (hBa : W.cell? ⟨Ba, 0, none⟩ = some (.slice A n c)) (hBb : W.cell? ⟨Bb, 0, none⟩ = some (.slice B m d)) (h0 : J [] W) :
    CallsIn Fence.wide 3 Tryz.prog 88 #[.func (.yield l) #[] #[], .pointer (some ⟨Ba, 0, none⟩), .pointer (some ⟨Bb, 0, none⟩)] W fun e W' => (∃ v, e = .returned v) ∧
      ((∃ ys : List DV, ys = pairsV N a b ∧ J ys W') ∨ (∃ pre, True ∧ Jx pre W')) := by
  have HJ := Lib.hid hJd; clear hJd
  have P0 : Hid (∀ u, Below W.heap.size W u → PI w0 J (pairsV N a b) N A n c B m d u N a b []) := Lib.hid (fun u hu => ⟨hA, hB, oa, ob, hn, hm, hc, hd, by omega, by simp, rfl, HJ.out _ _ _ h0 hu, hW.trans (Below.mono hu hW.size)⟩)
  generalize pairsV N a b = all at *
  clear hn hm hA hB oa ob h0 hW
  refine callsIn_of_wp Tryz.func88 rfl trivial ?_ rfl
  simp only [Tryz.ntmps88, List.size_toArray, List.length_cons, List.length_nil, Nat.reduceAdd, Nat.reduceSub, Array.replicate_succ, Array.replicate_zero, List.push_toArray, List.append_toArray, List.nil_append, List.cons_append]
  gi_wp2
  refine wpIn_wide.2 ?_
  go_quiet (fail)
  have P1 := Lib.hid (P0.out (W.drewN nq) (below_drewN (Below.refl _ _) _))
  have hN' := Lib.hid hN
  clear P0 hBa hBb hc hd
  gi_wp2_with fail
  gi_loopw [4, 5, 6] (fun s4 s5 s6 wr => ∃ (A1 : Option Addr) (n1 c1 : Nat) (A2 : Option Addr) (n2 c2 f : Nat) (a' b' : List RO) (pre : List DV), s4 = .slice A1 n1 c1 ∧ s5 = .slice A2 n2 c2 ∧ (∃ p, s6 = p) ∧ n1 ≤ 100000 ∧ n2 ≤ 100000 ∧ Hid (PI w0 J all N A1 n1 c1 A2 n2 c2 wr f a' b' pre))
    (fun s4 s5 _ _ => slN s4 + slN s5)
  case atStart => exact ⟨_, _, _, _, _, _, _, _, _, _, rfl, rfl, ⟨_, rfl⟩, hl, hl2, P1⟩
  case round =>
    clear P1
    obtain ⟨A1, n1, c1, A2, n2, c2, f, a', b', pre, rfl, rfl, ⟨p6, rfl⟩, l1, l2, PH⟩ := hrel
    cases a' with
    | nil =>
      cases b' with
      | nil =>
        obtain rfl : n1 = 0 := PH.out.na
        obtain rfl : n2 = 0 := PH.out.nb
        have AL : Hid (pre = all) := Lib.hid (by rw [PH.out.all]; cases f <;> simp [pairsV])
        gi_wp2_with fail
        go_end0
        exact ⟨⟨_, rfl⟩, .inl ⟨pre, AL.out, PH.out.inv⟩⟩
      | cons y b'' =>
        obtain ⟨f', rfl⟩ : ∃ f', f = f' + 1 := ⟨f - 1, by have h1 := PH.out.fuel; have h2 := PH.out.na; have h3 := PH.out.nb; simp at h2 h3; omega⟩
        obtain rfl : n1 = 0 := PH.out.na
        obtain ⟨k2, hk2⟩ : ∃ k2, k2 = b''.length := ⟨_, rfl⟩
        obtain rfl : n2 = k2 + 1 := by rw [PH.out.nb, hk2]; rfl
        have HK2 := Lib.hid hk2
        clear hk2
        have KK : ∀ {a : Addr} {v : Value}, a.block < wr.heap.size → wr.cell? a = some v → ∀ u, OldB wr u → u.cell? a = some v := fun hp hc u hu => (World.cell?_of_block (w := wr) (hu.block _ hp)).trans hc
        obtain ⟨b2, o2, hA2, hb2, e20, e21, e22, e23, e24, e25⟩ := ros_head (PH.out.rb.below PH.out.old)
        subst hA2
        have HG2 := Lib.hid (PH.out.ob y (by simp))
        have HO2 := HG2.out.1
        obtain ⟨B21, r21, v21, -⟩ := HO2.rs
        obtain ⟨B22, r22, v22, -⟩ := HO2.ts
        rw [v21] at e24
        rw [v22] at e25
        have V21 := Lib.hid v21
        have V22 := Lib.hid v22
        have t2 := mkB_tl y.c.id
        clear HO2 v21 v22
        have E20 := KK (a := ⟨b2, _, none⟩) hb2 e20
        have E21 := KK (a := ⟨b2, _, none⟩) hb2 e21
        have E22 := KK (a := ⟨b2, _, none⟩) hb2 e22
        have E23 := KK (a := ⟨b2, _, none⟩) hb2 e23
        have E24 := KK (a := ⟨b2, _, none⟩) hb2 e24
        have E25 := KK (a := ⟨b2, _, none⟩) hb2 e25
        clear e20 e21 e22 e23 e24 e25
        clear KK
        have cb : k2 + 1 ≤ c2 := PH.out.cb
        have cb1 : (1 : Int) ≤ (c2 : Int) := by omega
        have j1 : (1 : Int) ≤ (k2 : Int) + 1 := by omega
        have j2 : (0 : Int) < (k2 : Int) + 1 := by omega
        have j3 : (((k2 : Nat) : Int) + 1 == 0) = false := by simp; omega
        gi_wp2_with fail
        obtain ⟨X, hX⟩ : ∃ X, X = wr.alloc (.cells #[.string ⟨#[]⟩, .bool false, .bool false, .string ⟨#[]⟩, .int .i64 0, .int .i64 0, .int .i64 0, .slice none 0 0, .slice none 0 0, .string ⟨#[]⟩, .int .i64 0, .int .i64 0, .int .i64 0, .slice none 0 0, .slice none 0 0] 45) := ⟨_, rfl⟩
        rw [← hX]
        have QX : Hid (X.heap[wr.heap.size]? = some (.cells #[.string (mkB []), .bool false, .bool false, .string (mkB []), .int .i64 0, .int .i64 0, .int .i64 0, .slice none 0 0, .slice none 0 0, .string (mkB []), .int .i64 0, .int .i64 0, .int .i64 0, .slice none 0 0, .slice none 0 0] 45 (0, 0))) := Lib.hid (by rw [hX]; exact heap_alloc_new wr _)
        have OX : Hid (Below wr.heap.size wr X) := Lib.hid (by rw [hX]; exact (Below.refl _ _).alloc (Nat.le_refl _) _)
        clear hX
        refine wpIn_wide.2 ?_
        go_quiet (fail)
        have QY1 := Lib.hid (show (X.drewN nq).heap[wr.heap.size]? = _ from QX.out)
        have OY1 : Hid (Below wr.heap.size wr (X.drewN nq)) := Lib.hid (below_drewN OX.out nq)
        clear QX OX
        generalize X.drewN nq = Y1 at *
        clear nq
        have C0 := cell_of_row Y1 wr.heap.size 0 _ _ _ QY1.out
        have C1 := cell_of_row Y1 wr.heap.size 1 _ _ _ QY1.out
        simp at C0 C1
        have D2 := E20 Y1 OY1.out
        gi_wp2_with fail
        refine wpIn_wide.2 ?_
        go_quiet (fail)
        have QY3 := Lib.hid (show (Y1.drewN nq).heap[wr.heap.size]? = _ from QY1.out)
        have OY3 : Hid (Below wr.heap.size wr (Y1.drewN nq)) := Lib.hid (below_drewN OY1.out nq)
        clear QY1 OY1
        generalize Y1.drewN nq = Y3 at *
        clear nq
        clear C0 C1 D2
        have C0 := cell_of_row Y3 wr.heap.size 0 _ _ _ QY3.out
        have C2 := cell_of_row Y3 wr.heap.size 2 _ _ _ QY3.out
        have C9 := cell_of_row Y3 wr.heap.size 9 _ _ _ QY3.out
        have C10 := cell_of_row Y3 wr.heap.size 10 _ _ _ QY3.out
        have C11 := cell_of_row Y3 wr.heap.size 11 _ _ _ QY3.out
        have C12 := cell_of_row Y3 wr.heap.size 12 _ _ _ QY3.out
        have C13 := cell_of_row Y3 wr.heap.size 13 _ _ _ QY3.out
        have C14 := cell_of_row Y3 wr.heap.size 14 _ _ _ QY3.out
        simp at C0 C2 C9 C10 C11 C12 C13 C14
        have XF : ∀ f, Y3.frozen? ⟨wr.heap.size, f, none⟩ = false := fun f => free_blk QY3.out f
        gi_wp2_with fail
        refine wpIn_wide.2 ?_
        (refine wp_region_noPanic ?_; refine wp_region_held_drew (S := (OldB wr)) (by kernel_rfl) ?_ (fun hHeld => ?_); exact OY3.out.drew)
        (refine tkW 0 ?_; try simp only [gmS])
        (refine tkW 1 ?_; try simp only [gmS])
        (refine tkW 2 ?_; try simp only [gmS])
        (refine tkW 3 ?_; try simp only [gmS])
        (refine tkW 4 ?_; try simp only [gmS])
        (refine tkW 5 ?_; try simp only [gmS])
        (refine tkW 6 ?_; try simp only [gmS])
        (refine tkW 7 ?_; try simp only [gmS])
        (refine tkW 8 ?_; try simp only [gmS])
        (refine tkW 9 ?_; try simp only [gmS])
        (refine rdW 10 (fun K hK => ?_); go_simp)
        (refine hK.out _ _ (by unfold OldB; (repeat (first | with_reducible exact OY3.out | with_reducible refine Below.drew ?_ | with_reducible refine Below.setCell ?_ (by exact Nat.le_refl _) _)); done) (fun hHeld2 => ?_); clear hK K hHeld; have hHeld := hHeld2; clear hHeld2; try simp only [gmS])
        (refine tkW 11 ?_; try simp only [gmS])
        (refine rdW 12 (fun K hK => ?_); go_simp)
        (refine hK.out _ _ (by unfold OldB; (repeat (first | with_reducible exact OY3.out | with_reducible refine Below.drew ?_ | with_reducible refine Below.setCell ?_ (by exact Nat.le_refl _) _)); done) (fun hHeld2 => ?_); clear hK K hHeld; have hHeld := hHeld2; clear hHeld2; try simp only [gmS])
        (refine tkW 13 ?_; try simp only [gmS])
        (refine rdW 14 (fun K hK => ?_); go_simp)
        (refine hK.out _ _ (by unfold OldB; (repeat (first | with_reducible exact OY3.out | with_reducible refine Below.drew ?_ | with_reducible refine Below.setCell ?_ (by exact Nat.le_refl _) _)); done) (fun hHeld2 => ?_); clear hK K hHeld; have hHeld := hHeld2; clear hHeld2; try simp only [gmS])
        (refine tkW 15 ?_; try simp only [gmS])
        (refine wpAnyH_done (by kernel_rfl) ?_ _; refine NoPanic.normal ?_)
        have RT2 := Lib.hid (ros_tail PH.out.rb (c := c2) (by have := PH.out.nb; omega))
        generalize (if c2 = 1 then some (⟨b2, o2, none⟩ : Addr) else some ⟨b2, o2 + 6, none⟩) = G2 at *
        have QY4 := Lib.hid (row6 QY3.out (.string (mkB y.c.id)) (.bool true) (.string (mkB y.c.id)) (.int .i64 y.c.kind) (.int .i64 y.c.x) (.int .i64 y.c.y) (.slice B21 y.c.refs.length r21) (.slice B22 y.c.tags.length r22))
        have OY4 : Hid (Below wr.heap.size wr ((((((((Y3.setCell ⟨wr.heap.size, 0, none⟩ (.string (mkB y.c.id))).setCell ⟨wr.heap.size, 2, none⟩ (.bool true)).setCell ⟨wr.heap.size, 9, none⟩ (.string (mkB y.c.id))).setCell ⟨wr.heap.size, 10, none⟩ (.int .i64 y.c.kind)).setCell ⟨wr.heap.size, 11, none⟩ (.int .i64 y.c.x)).setCell ⟨wr.heap.size, 12, none⟩ (.int .i64 y.c.y)).setCell ⟨wr.heap.size, 13, none⟩ (.slice B21 y.c.refs.length r21)).setCell ⟨wr.heap.size, 14, none⟩ (.slice B22 y.c.tags.length r22)).drew) := Lib.hid (by (repeat (first | with_reducible exact OY3.out | with_reducible refine Below.drew ?_ | with_reducible refine Below.setCell ?_ (by exact Nat.le_refl _) _)); done)
        clear hHeld XF C0 C2 C9 C10 C11 C12 C13 C14
        generalize ((((((((Y3.setCell ⟨wr.heap.size, 0, none⟩ (.string (mkB y.c.id))).setCell ⟨wr.heap.size, 2, none⟩ (.bool true)).setCell ⟨wr.heap.size, 9, none⟩ (.string (mkB y.c.id))).setCell ⟨wr.heap.size, 10, none⟩ (.int .i64 y.c.kind)).setCell ⟨wr.heap.size, 11, none⟩ (.int .i64 y.c.x)).setCell ⟨wr.heap.size, 12, none⟩ (.int .i64 y.c.y)).setCell ⟨wr.heap.size, 13, none⟩ (.slice B21 y.c.refs.length r21)).setCell ⟨wr.heap.size, 14, none⟩ (.slice B22 y.c.tags.length r22)).drew = Y4 at *
        clear QY3 OY3
        have C0 := cell_of_row Y4 wr.heap.size 0 _ _ _ QY4.out
        have C1 := cell_of_row Y4 wr.heap.size 1 _ _ _ QY4.out
        have C2 := cell_of_row Y4 wr.heap.size 2 _ _ _ QY4.out
        have C3 := cell_of_row Y4 wr.heap.size 3 _ _ _ QY4.out
        have C4 := cell_of_row Y4 wr.heap.size 4 _ _ _ QY4.out
        have C5 := cell_of_row Y4 wr.heap.size 5 _ _ _ QY4.out
        have C6 := cell_of_row Y4 wr.heap.size 6 _ _ _ QY4.out
        have C7 := cell_of_row Y4 wr.heap.size 7 _ _ _ QY4.out
        have C8 := cell_of_row Y4 wr.heap.size 8 _ _ _ QY4.out
        have C9 := cell_of_row Y4 wr.heap.size 9 _ _ _ QY4.out
        have C10 := cell_of_row Y4 wr.heap.size 10 _ _ _ QY4.out
        have C11 := cell_of_row Y4 wr.heap.size 11 _ _ _ QY4.out
        have C12 := cell_of_row Y4 wr.heap.size 12 _ _ _ QY4.out
        have C13 := cell_of_row Y4 wr.heap.size 13 _ _ _ QY4.out
        have C14 := cell_of_row Y4 wr.heap.size 14 _ _ _ QY4.out
        simp at C0 C1 C2 C3 C4 C5 C6 C7 C8 C9 C10 C11 C12 C13 C14
        have ED : (dvC (⟨y.c.id, false, true, zeroRO, y⟩ : DV)).toArray = #[.string (mkB y.c.id), .bool false, .bool true, .string (mkB []), .int .i64 0, .int .i64 0, .int .i64 0, .slice none 0 0, .slice none 0 0, .string (mkB y.c.id), .int .i64 y.c.kind, .int .i64 y.c.x, .int .i64 y.c.y, .slice B21 y.c.refs.length r21, .slice B22 y.c.tags.length r22] := by unfold dvC roC; rw [V21.out, V22.out]; rfl
        have hJ : J pre Y4 := HJ.out pre wr Y4 PH.out.inv OY4.out
        obtain ⟨fn, tmps, assign, body, hy, hR⟩ := hY pre (⟨y.c.id, false, true, zeroRO, y⟩ : DV) Y4 ⟨⟨zeroIs _, HG2.out.1⟩, HG2.out.2.1.id, zeroSz, HG2.out.2⟩ hJ (by have := PH.out.len; omega)
        rw [ED] at hy
        try dsimp only at hy
        clear ED hJ
        gi_wp2_with fail
        refine hR.mono ?_
        clear hR hy
        rintro e W3 (⟨rfl, hJ3, hK3⟩ | ⟨rfl, hJx3⟩)
        · have hK4 : Below w0.heap.size wr W3 := (OY4.out.mono PH.out.old.size).trans hK3
          have HJ3 := Lib.hid hJ3
          have HK4 := Lib.hid hK4
          clear hJ3 hK3 hK4
          gi_wp2_with fail
          go_roundw
          case rel => exact ⟨_, _, _, _, _, _, f', [], b'', pre ++ [(⟨y.c.id, false, true, zeroRO, y⟩ : DV)], rfl, rfl, ⟨_, rfl⟩, by omega, by omega, Lib.hid (PH.out.step (d := (⟨y.c.id, false, true, zeroRO, y⟩ : DV)) (by rw [pairsV]) PH.out.ra RT2.out (fun r hr => hr) (fun r hr => List.mem_cons_of_mem _ hr) PH.out.na HK2.out PH.out.ca (by omega) (by omega) HJ3.out HK4.out)⟩
          case measure => simp [slN]
        · gi_wp2_with fail
          refine bodyPost_ret (results_none rfl _ _ _) rfl ?_
          exact ⟨⟨_, rfl⟩, .inr ⟨_, trivial, hJx3⟩⟩
    | cons x a'' =>
      cases b' with
      | nil =>
        obtain ⟨f', rfl⟩ : ∃ f', f = f' + 1 := ⟨f - 1, by have h1 := PH.out.fuel; have h2 := PH.out.na; have h3 := PH.out.nb; simp at h2 h3; omega⟩
        obtain ⟨k1, hk1⟩ : ∃ k1, k1 = a''.length := ⟨_, rfl⟩
        obtain rfl : n1 = k1 + 1 := by rw [PH.out.na, hk1]; rfl
        have HK1 := Lib.hid hk1
        clear hk1
        obtain rfl : n2 = 0 := PH.out.nb
        have KK : ∀ {a : Addr} {v : Value}, a.block < wr.heap.size → wr.cell? a = some v → ∀ u, OldB wr u → u.cell? a = some v := fun hp hc u hu => (World.cell?_of_block (w := wr) (hu.block _ hp)).trans hc
        obtain ⟨b1, o1, hA1, hb1, e10, e11, e12, e13, e14, e15⟩ := ros_head (PH.out.ra.below PH.out.old)
        subst hA1
        have HG1 := Lib.hid (PH.out.oa x (by simp))
        have HO1 := HG1.out.1
        obtain ⟨B11, r11, v11, -⟩ := HO1.rs
        obtain ⟨B12, r12, v12, -⟩ := HO1.ts
        rw [v11] at e14
        rw [v12] at e15
        have V11 := Lib.hid v11
        have V12 := Lib.hid v12
        have t1 := mkB_tl x.c.id
        clear HO1 v11 v12
        have E10 := KK (a := ⟨b1, _, none⟩) hb1 e10
        have E11 := KK (a := ⟨b1, _, none⟩) hb1 e11
        have E12 := KK (a := ⟨b1, _, none⟩) hb1 e12
        have E13 := KK (a := ⟨b1, _, none⟩) hb1 e13
        have E14 := KK (a := ⟨b1, _, none⟩) hb1 e14
        have E15 := KK (a := ⟨b1, _, none⟩) hb1 e15
        clear e10 e11 e12 e13 e14 e15
        clear KK
        have ca : k1 + 1 ≤ c1 := PH.out.ca
        have ca1 : (1 : Int) ≤ (c1 : Int) := by omega
        have i1 : (1 : Int) ≤ (k1 : Int) + 1 := by omega
        have i2 : (0 : Int) < (k1 : Int) + 1 := by omega
        gi_wp2_with fail
        obtain ⟨X, hX⟩ : ∃ X, X = wr.alloc (.cells #[.string ⟨#[]⟩, .bool false, .bool false, .string ⟨#[]⟩, .int .i64 0, .int .i64 0, .int .i64 0, .slice none 0 0, .slice none 0 0, .string ⟨#[]⟩, .int .i64 0, .int .i64 0, .int .i64 0, .slice none 0 0, .slice none 0 0] 45) := ⟨_, rfl⟩
        rw [← hX]
        have QX : Hid (X.heap[wr.heap.size]? = some (.cells #[.string (mkB []), .bool false, .bool false, .string (mkB []), .int .i64 0, .int .i64 0, .int .i64 0, .slice none 0 0, .slice none 0 0, .string (mkB []), .int .i64 0, .int .i64 0, .int .i64 0, .slice none 0 0, .slice none 0 0] 45 (0, 0))) := Lib.hid (by rw [hX]; exact heap_alloc_new wr _)
        have OX : Hid (Below wr.heap.size wr X) := Lib.hid (by rw [hX]; exact (Below.refl _ _).alloc (Nat.le_refl _) _)
        clear hX
        refine wpIn_wide.2 ?_
        go_quiet (fail)
        have QY1 := Lib.hid (show (X.drewN nq).heap[wr.heap.size]? = _ from QX.out)
        have OY1 : Hid (Below wr.heap.size wr (X.drewN nq)) := Lib.hid (below_drewN OX.out nq)
        clear QX OX
        generalize X.drewN nq = Y1 at *
        clear nq
        have C0 := cell_of_row Y1 wr.heap.size 0 _ _ _ QY1.out
        have C1 := cell_of_row Y1 wr.heap.size 1 _ _ _ QY1.out
        have C3 := cell_of_row Y1 wr.heap.size 3 _ _ _ QY1.out
        have C4 := cell_of_row Y1 wr.heap.size 4 _ _ _ QY1.out
        have C5 := cell_of_row Y1 wr.heap.size 5 _ _ _ QY1.out
        have C6 := cell_of_row Y1 wr.heap.size 6 _ _ _ QY1.out
        have C7 := cell_of_row Y1 wr.heap.size 7 _ _ _ QY1.out
        have C8 := cell_of_row Y1 wr.heap.size 8 _ _ _ QY1.out
        simp at C0 C1 C3 C4 C5 C6 C7 C8
        have XF : ∀ f, Y1.frozen? ⟨wr.heap.size, f, none⟩ = false := fun f => free_blk QY1.out f
        gi_wp2_with fail
        refine wpIn_wide.2 ?_
        (refine wp_region_noPanic ?_; refine wp_region_held_drew (S := (OldB wr)) (by kernel_rfl) ?_ (fun hHeld => ?_); exact OY1.out.drew)
        (refine tkW 0 ?_; try simp only [gmS])
        (refine tkW 1 ?_; try simp only [gmS])
        (refine tkW 2 ?_; try simp only [gmS])
        (refine tkW 3 ?_; try simp only [gmS])
        (refine tkW 4 ?_; try simp only [gmS])
        (refine tkW 5 ?_; try simp only [gmS])
        (refine tkW 6 ?_; try simp only [gmS])
        (refine tkW 7 ?_; try simp only [gmS])
        (refine tkW 8 ?_; try simp only [gmS])
        (refine tkW 9 ?_; try simp only [gmS])
        (refine rdW 10 (fun K hK => ?_); go_simp)
        (refine hK.out _ _ (by unfold OldB; (repeat (first | with_reducible exact OY1.out | with_reducible refine Below.drew ?_ | with_reducible refine Below.setCell ?_ (by exact Nat.le_refl _) _)); done) (fun hHeld2 => ?_); clear hK K hHeld; have hHeld := hHeld2; clear hHeld2; try simp only [gmS])
        (refine tkW 11 ?_; try simp only [gmS])
        (refine rdW 12 (fun K hK => ?_); go_simp)
        (refine hK.out _ _ (by unfold OldB; (repeat (first | with_reducible exact OY1.out | with_reducible refine Below.drew ?_ | with_reducible refine Below.setCell ?_ (by exact Nat.le_refl _) _)); done) (fun hHeld2 => ?_); clear hK K hHeld; have hHeld := hHeld2; clear hHeld2; try simp only [gmS])
        (refine tkW 13 ?_; try simp only [gmS])
        (refine rdW 14 (fun K hK => ?_); go_simp)
        (refine hK.out _ _ (by unfold OldB; (repeat (first | with_reducible exact OY1.out | with_reducible refine Below.drew ?_ | with_reducible refine Below.setCell ?_ (by exact Nat.le_refl _) _)); done) (fun hHeld2 => ?_); clear hK K hHeld; have hHeld := hHeld2; clear hHeld2; try simp only [gmS])
        (refine tkW 15 ?_; try simp only [gmS])
        (refine wpAnyH_done (by kernel_rfl) ?_ _; refine NoPanic.normal ?_)
        have RT1 := Lib.hid (ros_tail PH.out.ra (c := c1) (by have := PH.out.na; omega))
        generalize (if c1 = 1 then some (⟨b1, o1, none⟩ : Addr) else some ⟨b1, o1 + 6, none⟩) = G1 at *
        have QY2 := Lib.hid (row4 QY1.out (.string (mkB x.c.id)) (.bool true) (.string (mkB x.c.id)) (.int .i64 x.c.kind) (.int .i64 x.c.x) (.int .i64 x.c.y) (.slice B11 x.c.refs.length r11) (.slice B12 x.c.tags.length r12))
        have OY2 : Hid (Below wr.heap.size wr ((((((((Y1.setCell ⟨wr.heap.size, 0, none⟩ (.string (mkB x.c.id))).setCell ⟨wr.heap.size, 1, none⟩ (.bool true)).setCell ⟨wr.heap.size, 3, none⟩ (.string (mkB x.c.id))).setCell ⟨wr.heap.size, 4, none⟩ (.int .i64 x.c.kind)).setCell ⟨wr.heap.size, 5, none⟩ (.int .i64 x.c.x)).setCell ⟨wr.heap.size, 6, none⟩ (.int .i64 x.c.y)).setCell ⟨wr.heap.size, 7, none⟩ (.slice B11 x.c.refs.length r11)).setCell ⟨wr.heap.size, 8, none⟩ (.slice B12 x.c.tags.length r12)).drew) := Lib.hid (by (repeat (first | with_reducible exact OY1.out | with_reducible refine Below.drew ?_ | with_reducible refine Below.setCell ?_ (by exact Nat.le_refl _) _)); done)
        clear hHeld XF C0 C1 C3 C4 C5 C6 C7 C8
        generalize ((((((((Y1.setCell ⟨wr.heap.size, 0, none⟩ (.string (mkB x.c.id))).setCell ⟨wr.heap.size, 1, none⟩ (.bool true)).setCell ⟨wr.heap.size, 3, none⟩ (.string (mkB x.c.id))).setCell ⟨wr.heap.size, 4, none⟩ (.int .i64 x.c.kind)).setCell ⟨wr.heap.size, 5, none⟩ (.int .i64 x.c.x)).setCell ⟨wr.heap.size, 6, none⟩ (.int .i64 x.c.y)).setCell ⟨wr.heap.size, 7, none⟩ (.slice B11 x.c.refs.length r11)).setCell ⟨wr.heap.size, 8, none⟩ (.slice B12 x.c.tags.length r12)).drew = Y2 at *
        clear QY1 OY1
        gi_wp2_with fail
        refine wpIn_wide.2 ?_
        go_quiet (fail)
        have QY3 := Lib.hid (show (Y2.drewN nq).heap[wr.heap.size]? = _ from QY2.out)
        have OY3 : Hid (Below wr.heap.size wr (Y2.drewN nq)) := Lib.hid (below_drewN OY2.out nq)
        clear QY2 OY2
        generalize Y2.drewN nq = Y3 at *
        clear nq
        have C0 := cell_of_row Y3 wr.heap.size 0 _ _ _ QY3.out
        have C1 := cell_of_row Y3 wr.heap.size 1 _ _ _ QY3.out
        have C2 := cell_of_row Y3 wr.heap.size 2 _ _ _ QY3.out
        have C3 := cell_of_row Y3 wr.heap.size 3 _ _ _ QY3.out
        have C4 := cell_of_row Y3 wr.heap.size 4 _ _ _ QY3.out
        have C5 := cell_of_row Y3 wr.heap.size 5 _ _ _ QY3.out
        have C6 := cell_of_row Y3 wr.heap.size 6 _ _ _ QY3.out
        have C7 := cell_of_row Y3 wr.heap.size 7 _ _ _ QY3.out
        have C8 := cell_of_row Y3 wr.heap.size 8 _ _ _ QY3.out
        have C9 := cell_of_row Y3 wr.heap.size 9 _ _ _ QY3.out
        have C10 := cell_of_row Y3 wr.heap.size 10 _ _ _ QY3.out
        have C11 := cell_of_row Y3 wr.heap.size 11 _ _ _ QY3.out
        have C12 := cell_of_row Y3 wr.heap.size 12 _ _ _ QY3.out
        have C13 := cell_of_row Y3 wr.heap.size 13 _ _ _ QY3.out
        have C14 := cell_of_row Y3 wr.heap.size 14 _ _ _ QY3.out
        simp at C0 C1 C2 C3 C4 C5 C6 C7 C8 C9 C10 C11 C12 C13 C14
        have ED : (dvC (⟨x.c.id, true, false, x, zeroRO⟩ : DV)).toArray = #[.string (mkB x.c.id), .bool true, .bool false, .string (mkB x.c.id), .int .i64 x.c.kind, .int .i64 x.c.x, .int .i64 x.c.y, .slice B11 x.c.refs.length r11, .slice B12 x.c.tags.length r12, .string (mkB []), .int .i64 0, .int .i64 0, .int .i64 0, .slice none 0 0, .slice none 0 0] := by unfold dvC roC; rw [V11.out, V12.out]; rfl
        have hJ : J pre Y3 := HJ.out pre wr Y3 PH.out.inv OY3.out
        obtain ⟨fn, tmps, assign, body, hy, hR⟩ := hY pre (⟨x.c.id, true, false, x, zeroRO⟩ : DV) Y3 ⟨⟨HG1.out.1, zeroIs _⟩, HG1.out.2.1.id, HG1.out.2, zeroSz⟩ hJ (by have := PH.out.len; omega)
        rw [ED] at hy
        try dsimp only at hy
        clear ED hJ
        gi_wp2_with fail
        refine hR.mono ?_
        clear hR hy
        rintro e W3 (⟨rfl, hJ3, hK3⟩ | ⟨rfl, hJx3⟩)
        · have hK4 : Below w0.heap.size wr W3 := (OY3.out.mono PH.out.old.size).trans hK3
          have HJ3 := Lib.hid hJ3
          have HK4 := Lib.hid hK4
          clear hJ3 hK3 hK4
          gi_wp2_with fail
          go_roundw
          case rel => exact ⟨_, _, _, _, _, _, f', a'', [], pre ++ [(⟨x.c.id, true, false, x, zeroRO⟩ : DV)], rfl, rfl, ⟨_, rfl⟩, by omega, by omega, Lib.hid (PH.out.step (d := (⟨x.c.id, true, false, x, zeroRO⟩ : DV)) (by rw [pairsV]) RT1.out PH.out.rb (fun r hr => List.mem_cons_of_mem _ hr) (fun r hr => hr) HK1.out PH.out.nb (by omega) PH.out.cb (by omega) HJ3.out HK4.out)⟩
          case measure => simp [slN]
        · gi_wp2_with fail
          refine bodyPost_ret (results_none rfl _ _ _) rfl ?_
          exact ⟨⟨_, rfl⟩, .inr ⟨_, trivial, hJx3⟩⟩
      | cons y b'' =>
        rcases lt_facts x.c.id y.c.id with ⟨fgt, f2, f3⟩ | ⟨flt', f2, f3⟩ | ⟨feq', f2, f3⟩
        · skip
          obtain ⟨f', rfl⟩ : ∃ f', f = f' + 1 := ⟨f - 1, by have h1 := PH.out.fuel; have h2 := PH.out.na; have h3 := PH.out.nb; simp at h2 h3; omega⟩
          obtain ⟨k1, hk1⟩ : ∃ k1, k1 = a''.length := ⟨_, rfl⟩
          obtain rfl : n1 = k1 + 1 := by rw [PH.out.na, hk1]; rfl
          have HK1 := Lib.hid hk1
          clear hk1
          obtain ⟨k2, hk2⟩ : ∃ k2, k2 = b''.length := ⟨_, rfl⟩
          obtain rfl : n2 = k2 + 1 := by rw [PH.out.nb, hk2]; rfl
          have HK2 := Lib.hid hk2
          clear hk2
          have KK : ∀ {a : Addr} {v : Value}, a.block < wr.heap.size → wr.cell? a = some v → ∀ u, OldB wr u → u.cell? a = some v := fun hp hc u hu => (World.cell?_of_block (w := wr) (hu.block _ hp)).trans hc
          obtain ⟨b1, o1, hA1, hb1, e10, e11, e12, e13, e14, e15⟩ := ros_head (PH.out.ra.below PH.out.old)
          subst hA1
          have HG1 := Lib.hid (PH.out.oa x (by simp))
          have HO1 := HG1.out.1
          obtain ⟨B11, r11, v11, -⟩ := HO1.rs
          obtain ⟨B12, r12, v12, -⟩ := HO1.ts
          rw [v11] at e14
          rw [v12] at e15
          have V11 := Lib.hid v11
          have V12 := Lib.hid v12
          have t1 := mkB_tl x.c.id
          clear HO1 v11 v12
          have E10 := KK (a := ⟨b1, _, none⟩) hb1 e10
          have E11 := KK (a := ⟨b1, _, none⟩) hb1 e11
          have E12 := KK (a := ⟨b1, _, none⟩) hb1 e12
          have E13 := KK (a := ⟨b1, _, none⟩) hb1 e13
          have E14 := KK (a := ⟨b1, _, none⟩) hb1 e14
          have E15 := KK (a := ⟨b1, _, none⟩) hb1 e15
          clear e10 e11 e12 e13 e14 e15
          obtain ⟨b2, o2, hA2, hb2, e20, e21, e22, e23, e24, e25⟩ := ros_head (PH.out.rb.below PH.out.old)
          subst hA2
          have HG2 := Lib.hid (PH.out.ob y (by simp))
          have HO2 := HG2.out.1
          obtain ⟨B21, r21, v21, -⟩ := HO2.rs
          obtain ⟨B22, r22, v22, -⟩ := HO2.ts
          rw [v21] at e24
          rw [v22] at e25
          have V21 := Lib.hid v21
          have V22 := Lib.hid v22
          have t2 := mkB_tl y.c.id
          clear HO2 v21 v22
          have E20 := KK (a := ⟨b2, _, none⟩) hb2 e20
          have E21 := KK (a := ⟨b2, _, none⟩) hb2 e21
          have E22 := KK (a := ⟨b2, _, none⟩) hb2 e22
          have E23 := KK (a := ⟨b2, _, none⟩) hb2 e23
          have E24 := KK (a := ⟨b2, _, none⟩) hb2 e24
          have E25 := KK (a := ⟨b2, _, none⟩) hb2 e25
          clear e20 e21 e22 e23 e24 e25
          clear KK
          have ca : k1 + 1 ≤ c1 := PH.out.ca
          have ca1 : (1 : Int) ≤ (c1 : Int) := by omega
          have i1 : (1 : Int) ≤ (k1 : Int) + 1 := by omega
          have i2 : (0 : Int) < (k1 : Int) + 1 := by omega
          have cb : k2 + 1 ≤ c2 := PH.out.cb
          have cb1 : (1 : Int) ≤ (c2 : Int) := by omega
          have j1 : (1 : Int) ≤ (k2 : Int) + 1 := by omega
          have j2 : (0 : Int) < (k2 : Int) + 1 := by omega
          have j3 : (((k2 : Nat) : Int) + 1 == 0) = false := by simp; omega
          gi_wp2_with fail
          obtain ⟨X, hX⟩ : ∃ X, X = wr.alloc (.cells #[.string ⟨#[]⟩, .bool false, .bool false, .string ⟨#[]⟩, .int .i64 0, .int .i64 0, .int .i64 0, .slice none 0 0, .slice none 0 0, .string ⟨#[]⟩, .int .i64 0, .int .i64 0, .int .i64 0, .slice none 0 0, .slice none 0 0] 45) := ⟨_, rfl⟩
          rw [← hX]
          have QX : Hid (X.heap[wr.heap.size]? = some (.cells #[.string (mkB []), .bool false, .bool false, .string (mkB []), .int .i64 0, .int .i64 0, .int .i64 0, .slice none 0 0, .slice none 0 0, .string (mkB []), .int .i64 0, .int .i64 0, .int .i64 0, .slice none 0 0, .slice none 0 0] 45 (0, 0))) := Lib.hid (by rw [hX]; exact heap_alloc_new wr _)
          have OX : Hid (Below wr.heap.size wr X) := Lib.hid (by rw [hX]; exact (Below.refl _ _).alloc (Nat.le_refl _) _)
          clear hX
          have D1 := E10 X OX.out
          have D2 := E20 X OX.out
          refine wpIn_wide.2 ?_
          go_quiet (fail)
          have QY1 := Lib.hid (show (X.drewN nq).heap[wr.heap.size]? = _ from QX.out)
          have OY1 : Hid (Below wr.heap.size wr (X.drewN nq)) := Lib.hid (below_drewN OX.out nq)
          clear QX OX
          generalize X.drewN nq = Y1 at *
          clear nq
          clear D1 D2
          have C0 := cell_of_row Y1 wr.heap.size 0 _ _ _ QY1.out
          have C1 := cell_of_row Y1 wr.heap.size 1 _ _ _ QY1.out
          simp at C0 C1
          have D2 := E20 Y1 OY1.out
          gi_wp2_with fail
          refine wpIn_wide.2 ?_
          go_quiet (fail)
          have QY3 := Lib.hid (show (Y1.drewN nq).heap[wr.heap.size]? = _ from QY1.out)
          have OY3 : Hid (Below wr.heap.size wr (Y1.drewN nq)) := Lib.hid (below_drewN OY1.out nq)
          clear QY1 OY1
          generalize Y1.drewN nq = Y3 at *
          clear nq
          clear C0 C1 D2
          have C0 := cell_of_row Y3 wr.heap.size 0 _ _ _ QY3.out
          have C2 := cell_of_row Y3 wr.heap.size 2 _ _ _ QY3.out
          have C9 := cell_of_row Y3 wr.heap.size 9 _ _ _ QY3.out
          have C10 := cell_of_row Y3 wr.heap.size 10 _ _ _ QY3.out
          have C11 := cell_of_row Y3 wr.heap.size 11 _ _ _ QY3.out
          have C12 := cell_of_row Y3 wr.heap.size 12 _ _ _ QY3.out
          have C13 := cell_of_row Y3 wr.heap.size 13 _ _ _ QY3.out
          have C14 := cell_of_row Y3 wr.heap.size 14 _ _ _ QY3.out
          simp at C0 C2 C9 C10 C11 C12 C13 C14
          have XF : ∀ f, Y3.frozen? ⟨wr.heap.size, f, none⟩ = false := fun f => free_blk QY3.out f
          gi_wp2_with fail
          refine wpIn_wide.2 ?_
          (refine wp_region_noPanic ?_; refine wp_region_held_drew (S := (OldB wr)) (by kernel_rfl) ?_ (fun hHeld => ?_); exact OY3.out.drew)
          (refine tkW 0 ?_; try simp only [gmS])
          (refine tkW 1 ?_; try simp only [gmS])
          (refine tkW 2 ?_; try simp only [gmS])
          (refine tkW 3 ?_; try simp only [gmS])
          (refine tkW 4 ?_; try simp only [gmS])
          (refine tkW 5 ?_; try simp only [gmS])
          (refine tkW 6 ?_; try simp only [gmS])
          (refine tkW 7 ?_; try simp only [gmS])
          (refine tkW 8 ?_; try simp only [gmS])
          (refine tkW 9 ?_; try simp only [gmS])
          (refine rdW 10 (fun K hK => ?_); go_simp)
          (refine hK.out _ _ (by unfold OldB; (repeat (first | with_reducible exact OY3.out | with_reducible refine Below.drew ?_ | with_reducible refine Below.setCell ?_ (by exact Nat.le_refl _) _)); done) (fun hHeld2 => ?_); clear hK K hHeld; have hHeld := hHeld2; clear hHeld2; try simp only [gmS])
          (refine tkW 11 ?_; try simp only [gmS])
          (refine rdW 12 (fun K hK => ?_); go_simp)
          (refine hK.out _ _ (by unfold OldB; (repeat (first | with_reducible exact OY3.out | with_reducible refine Below.drew ?_ | with_reducible refine Below.setCell ?_ (by exact Nat.le_refl _) _)); done) (fun hHeld2 => ?_); clear hK K hHeld; have hHeld := hHeld2; clear hHeld2; try simp only [gmS])
          (refine tkW 13 ?_; try simp only [gmS])
          (refine rdW 14 (fun K hK => ?_); go_simp)
          (refine hK.out _ _ (by unfold OldB; (repeat (first | with_reducible exact OY3.out | with_reducible refine Below.drew ?_ | with_reducible refine Below.setCell ?_ (by exact Nat.le_refl _) _)); done) (fun hHeld2 => ?_); clear hK K hHeld; have hHeld := hHeld2; clear hHeld2; try simp only [gmS])
          (refine tkW 15 ?_; try simp only [gmS])
          (refine wpAnyH_done (by kernel_rfl) ?_ _; refine NoPanic.normal ?_)
          have RT2 := Lib.hid (ros_tail PH.out.rb (c := c2) (by have := PH.out.nb; omega))
          generalize (if c2 = 1 then some (⟨b2, o2, none⟩ : Addr) else some ⟨b2, o2 + 6, none⟩) = G2 at *
          have QY4 := Lib.hid (row6 QY3.out (.string (mkB y.c.id)) (.bool true) (.string (mkB y.c.id)) (.int .i64 y.c.kind) (.int .i64 y.c.x) (.int .i64 y.c.y) (.slice B21 y.c.refs.length r21) (.slice B22 y.c.tags.length r22))
          have OY4 : Hid (Below wr.heap.size wr ((((((((Y3.setCell ⟨wr.heap.size, 0, none⟩ (.string (mkB y.c.id))).setCell ⟨wr.heap.size, 2, none⟩ (.bool true)).setCell ⟨wr.heap.size, 9, none⟩ (.string (mkB y.c.id))).setCell ⟨wr.heap.size, 10, none⟩ (.int .i64 y.c.kind)).setCell ⟨wr.heap.size, 11, none⟩ (.int .i64 y.c.x)).setCell ⟨wr.heap.size, 12, none⟩ (.int .i64 y.c.y)).setCell ⟨wr.heap.size, 13, none⟩ (.slice B21 y.c.refs.length r21)).setCell ⟨wr.heap.size, 14, none⟩ (.slice B22 y.c.tags.length r22)).drew) := Lib.hid (by (repeat (first | with_reducible exact OY3.out | with_reducible refine Below.drew ?_ | with_reducible refine Below.setCell ?_ (by exact Nat.le_refl _) _)); done)
          clear hHeld XF C0 C2 C9 C10 C11 C12 C13 C14
          generalize ((((((((Y3.setCell ⟨wr.heap.size, 0, none⟩ (.string (mkB y.c.id))).setCell ⟨wr.heap.size, 2, none⟩ (.bool true)).setCell ⟨wr.heap.size, 9, none⟩ (.string (mkB y.c.id))).setCell ⟨wr.heap.size, 10, none⟩ (.int .i64 y.c.kind)).setCell ⟨wr.heap.size, 11, none⟩ (.int .i64 y.c.x)).setCell ⟨wr.heap.size, 12, none⟩ (.int .i64 y.c.y)).setCell ⟨wr.heap.size, 13, none⟩ (.slice B21 y.c.refs.length r21)).setCell ⟨wr.heap.size, 14, none⟩ (.slice B22 y.c.tags.length r22)).drew = Y4 at *
          clear QY3 OY3
          have C0 := cell_of_row Y4 wr.heap.size 0 _ _ _ QY4.out
          have C1 := cell_of_row Y4 wr.heap.size 1 _ _ _ QY4.out
          have C2 := cell_of_row Y4 wr.heap.size 2 _ _ _ QY4.out
          have C3 := cell_of_row Y4 wr.heap.size 3 _ _ _ QY4.out
          have C4 := cell_of_row Y4 wr.heap.size 4 _ _ _ QY4.out
          have C5 := cell_of_row Y4 wr.heap.size 5 _ _ _ QY4.out
          have C6 := cell_of_row Y4 wr.heap.size 6 _ _ _ QY4.out
          have C7 := cell_of_row Y4 wr.heap.size 7 _ _ _ QY4.out
          have C8 := cell_of_row Y4 wr.heap.size 8 _ _ _ QY4.out
          have C9 := cell_of_row Y4 wr.heap.size 9 _ _ _ QY4.out
          have C10 := cell_of_row Y4 wr.heap.size 10 _ _ _ QY4.out
          have C11 := cell_of_row Y4 wr.heap.size 11 _ _ _ QY4.out
          have C12 := cell_of_row Y4 wr.heap.size 12 _ _ _ QY4.out
          have C13 := cell_of_row Y4 wr.heap.size 13 _ _ _ QY4.out
          have C14 := cell_of_row Y4 wr.heap.size 14 _ _ _ QY4.out
          simp at C0 C1 C2 C3 C4 C5 C6 C7 C8 C9 C10 C11 C12 C13 C14
          have ED : (dvC (⟨y.c.id, false, true, zeroRO, y⟩ : DV)).toArray = #[.string (mkB y.c.id), .bool false, .bool true, .string (mkB []), .int .i64 0, .int .i64 0, .int .i64 0, .slice none 0 0, .slice none 0 0, .string (mkB y.c.id), .int .i64 y.c.kind, .int .i64 y.c.x, .int .i64 y.c.y, .slice B21 y.c.refs.length r21, .slice B22 y.c.tags.length r22] := by unfold dvC roC; rw [V21.out, V22.out]; rfl
          have hJ : J pre Y4 := HJ.out pre wr Y4 PH.out.inv OY4.out
          obtain ⟨fn, tmps, assign, body, hy, hR⟩ := hY pre (⟨y.c.id, false, true, zeroRO, y⟩ : DV) Y4 ⟨⟨zeroIs _, HG2.out.1⟩, HG2.out.2.1.id, zeroSz, HG2.out.2⟩ hJ (by have := PH.out.len; omega)
          rw [ED] at hy
          try dsimp only at hy
          clear ED hJ
          gi_wp2_with fail
          refine hR.mono ?_
          clear hR hy
          rintro e W3 (⟨rfl, hJ3, hK3⟩ | ⟨rfl, hJx3⟩)
          · have hK4 : Below w0.heap.size wr W3 := (OY4.out.mono PH.out.old.size).trans hK3
            have HJ3 := Lib.hid hJ3
            have HK4 := Lib.hid hK4
            clear hJ3 hK3 hK4
            gi_wp2_with fail
            go_roundw
            case rel => exact ⟨_, _, _, _, _, _, f', (x :: a''), b'', pre ++ [(⟨y.c.id, false, true, zeroRO, y⟩ : DV)], rfl, rfl, ⟨_, rfl⟩, by omega, by omega, Lib.hid (PH.out.step (d := (⟨y.c.id, false, true, zeroRO, y⟩ : DV)) (by rw [pairsV, if_neg (fun e => At.lt_ne fgt e.symm), if_neg (by rw [At.lt_asymm fgt]; decide)]) PH.out.ra RT2.out (fun r hr => hr) (fun r hr => List.mem_cons_of_mem _ hr) PH.out.na HK2.out PH.out.ca (by omega) (by omega) HJ3.out HK4.out)⟩
            case measure => simp [slN]
          · gi_wp2_with fail
            refine bodyPost_ret (results_none rfl _ _ _) rfl ?_
            exact ⟨⟨_, rfl⟩, .inr ⟨_, trivial, hJx3⟩⟩
        · have flt := Lib.hid (show At.lt x.c.id y.c.id = true from f2)
          have f4 : (y.c.id == x.c.id) = false := by have := (At.lt_ne f2).symm; simpa using this
          obtain ⟨f', rfl⟩ : ∃ f', f = f' + 1 := ⟨f - 1, by have h1 := PH.out.fuel; have h2 := PH.out.na; have h3 := PH.out.nb; simp at h2 h3; omega⟩
          obtain ⟨k1, hk1⟩ : ∃ k1, k1 = a''.length := ⟨_, rfl⟩
          obtain rfl : n1 = k1 + 1 := by rw [PH.out.na, hk1]; rfl
          have HK1 := Lib.hid hk1
          clear hk1
          obtain ⟨k2, hk2⟩ : ∃ k2, k2 = b''.length := ⟨_, rfl⟩
          obtain rfl : n2 = k2 + 1 := by rw [PH.out.nb, hk2]; rfl
          have HK2 := Lib.hid hk2
          clear hk2
          have KK : ∀ {a : Addr} {v : Value}, a.block < wr.heap.size → wr.cell? a = some v → ∀ u, OldB wr u → u.cell? a = some v := fun hp hc u hu => (World.cell?_of_block (w := wr) (hu.block _ hp)).trans hc
          obtain ⟨b1, o1, hA1, hb1, e10, e11, e12, e13, e14, e15⟩ := ros_head (PH.out.ra.below PH.out.old)
          subst hA1
          have HG1 := Lib.hid (PH.out.oa x (by simp))
          have HO1 := HG1.out.1
          obtain ⟨B11, r11, v11, -⟩ := HO1.rs
          obtain ⟨B12, r12, v12, -⟩ := HO1.ts
          rw [v11] at e14
          rw [v12] at e15
          have V11 := Lib.hid v11
          have V12 := Lib.hid v12
          have t1 := mkB_tl x.c.id
          clear HO1 v11 v12
          have E10 := KK (a := ⟨b1, _, none⟩) hb1 e10
          have E11 := KK (a := ⟨b1, _, none⟩) hb1 e11
          have E12 := KK (a := ⟨b1, _, none⟩) hb1 e12
          have E13 := KK (a := ⟨b1, _, none⟩) hb1 e13
          have E14 := KK (a := ⟨b1, _, none⟩) hb1 e14
          have E15 := KK (a := ⟨b1, _, none⟩) hb1 e15
          clear e10 e11 e12 e13 e14 e15
          obtain ⟨b2, o2, hA2, hb2, e20, e21, e22, e23, e24, e25⟩ := ros_head (PH.out.rb.below PH.out.old)
          subst hA2
          have HG2 := Lib.hid (PH.out.ob y (by simp))
          have HO2 := HG2.out.1
          obtain ⟨B21, r21, v21, -⟩ := HO2.rs
          obtain ⟨B22, r22, v22, -⟩ := HO2.ts
          rw [v21] at e24
          rw [v22] at e25
          have V21 := Lib.hid v21
          have V22 := Lib.hid v22
          have t2 := mkB_tl y.c.id
          clear HO2 v21 v22
          have E20 := KK (a := ⟨b2, _, none⟩) hb2 e20
          have E21 := KK (a := ⟨b2, _, none⟩) hb2 e21
          have E22 := KK (a := ⟨b2, _, none⟩) hb2 e22
          have E23 := KK (a := ⟨b2, _, none⟩) hb2 e23
          have E24 := KK (a := ⟨b2, _, none⟩) hb2 e24
          have E25 := KK (a := ⟨b2, _, none⟩) hb2 e25
          clear e20 e21 e22 e23 e24 e25
          clear KK
          have ca : k1 + 1 ≤ c1 := PH.out.ca
          have ca1 : (1 : Int) ≤ (c1 : Int) := by omega
          have i1 : (1 : Int) ≤ (k1 : Int) + 1 := by omega
          have i2 : (0 : Int) < (k1 : Int) + 1 := by omega
          have cb : k2 + 1 ≤ c2 := PH.out.cb
          have cb1 : (1 : Int) ≤ (c2 : Int) := by omega
          have j1 : (1 : Int) ≤ (k2 : Int) + 1 := by omega
          have j2 : (0 : Int) < (k2 : Int) + 1 := by omega
          have j3 : (((k2 : Nat) : Int) + 1 == 0) = false := by simp; omega
          gi_wp2_with fail
          obtain ⟨X, hX⟩ : ∃ X, X = wr.alloc (.cells #[.string ⟨#[]⟩, .bool false, .bool false, .string ⟨#[]⟩, .int .i64 0, .int .i64 0, .int .i64 0, .slice none 0 0, .slice none 0 0, .string ⟨#[]⟩, .int .i64 0, .int .i64 0, .int .i64 0, .slice none 0 0, .slice none 0 0] 45) := ⟨_, rfl⟩
          rw [← hX]
          have QX : Hid (X.heap[wr.heap.size]? = some (.cells #[.string (mkB []), .bool false, .bool false, .string (mkB []), .int .i64 0, .int .i64 0, .int .i64 0, .slice none 0 0, .slice none 0 0, .string (mkB []), .int .i64 0, .int .i64 0, .int .i64 0, .slice none 0 0, .slice none 0 0] 45 (0, 0))) := Lib.hid (by rw [hX]; exact heap_alloc_new wr _)
          have OX : Hid (Below wr.heap.size wr X) := Lib.hid (by rw [hX]; exact (Below.refl _ _).alloc (Nat.le_refl _) _)
          clear hX
          have D1 := E10 X OX.out
          have D2 := E20 X OX.out
          refine wpIn_wide.2 ?_
          go_quiet (fail)
          have QY1 := Lib.hid (show (X.drewN nq).heap[wr.heap.size]? = _ from QX.out)
          have OY1 : Hid (Below wr.heap.size wr (X.drewN nq)) := Lib.hid (below_drewN OX.out nq)
          clear QX OX
          generalize X.drewN nq = Y1 at *
          clear nq
          clear D1 D2
          have C0 := cell_of_row Y1 wr.heap.size 0 _ _ _ QY1.out
          have C1 := cell_of_row Y1 wr.heap.size 1 _ _ _ QY1.out
          have C3 := cell_of_row Y1 wr.heap.size 3 _ _ _ QY1.out
          have C4 := cell_of_row Y1 wr.heap.size 4 _ _ _ QY1.out
          have C5 := cell_of_row Y1 wr.heap.size 5 _ _ _ QY1.out
          have C6 := cell_of_row Y1 wr.heap.size 6 _ _ _ QY1.out
          have C7 := cell_of_row Y1 wr.heap.size 7 _ _ _ QY1.out
          have C8 := cell_of_row Y1 wr.heap.size 8 _ _ _ QY1.out
          simp at C0 C1 C3 C4 C5 C6 C7 C8
          have XF : ∀ f, Y1.frozen? ⟨wr.heap.size, f, none⟩ = false := fun f => free_blk QY1.out f
          gi_wp2_with fail
          refine wpIn_wide.2 ?_
          (refine wp_region_noPanic ?_; refine wp_region_held_drew (S := (OldB wr)) (by kernel_rfl) ?_ (fun hHeld => ?_); exact OY1.out.drew)
          (refine tkW 0 ?_; try simp only [gmS])
          (refine tkW 1 ?_; try simp only [gmS])
          (refine tkW 2 ?_; try simp only [gmS])
          (refine tkW 3 ?_; try simp only [gmS])
          (refine tkW 4 ?_; try simp only [gmS])
          (refine tkW 5 ?_; try simp only [gmS])
          (refine tkW 6 ?_; try simp only [gmS])
          (refine tkW 7 ?_; try simp only [gmS])
          (refine tkW 8 ?_; try simp only [gmS])
          (refine tkW 9 ?_; try simp only [gmS])
          (refine rdW 10 (fun K hK => ?_); go_simp)
          (refine hK.out _ _ (by unfold OldB; (repeat (first | with_reducible exact OY1.out | with_reducible refine Below.drew ?_ | with_reducible refine Below.setCell ?_ (by exact Nat.le_refl _) _)); done) (fun hHeld2 => ?_); clear hK K hHeld; have hHeld := hHeld2; clear hHeld2; try simp only [gmS])
          (refine tkW 11 ?_; try simp only [gmS])
          (refine rdW 12 (fun K hK => ?_); go_simp)
          (refine hK.out _ _ (by unfold OldB; (repeat (first | with_reducible exact OY1.out | with_reducible refine Below.drew ?_ | with_reducible refine Below.setCell ?_ (by exact Nat.le_refl _) _)); done) (fun hHeld2 => ?_); clear hK K hHeld; have hHeld := hHeld2; clear hHeld2; try simp only [gmS])
          (refine tkW 13 ?_; try simp only [gmS])
          (refine rdW 14 (fun K hK => ?_); go_simp)
          (refine hK.out _ _ (by unfold OldB; (repeat (first | with_reducible exact OY1.out | with_reducible refine Below.drew ?_ | with_reducible refine Below.setCell ?_ (by exact Nat.le_refl _) _)); done) (fun hHeld2 => ?_); clear hK K hHeld; have hHeld := hHeld2; clear hHeld2; try simp only [gmS])
          (refine tkW 15 ?_; try simp only [gmS])
          (refine wpAnyH_done (by kernel_rfl) ?_ _; refine NoPanic.normal ?_)
          have RT1 := Lib.hid (ros_tail PH.out.ra (c := c1) (by have := PH.out.na; omega))
          generalize (if c1 = 1 then some (⟨b1, o1, none⟩ : Addr) else some ⟨b1, o1 + 6, none⟩) = G1 at *
          have QY2 := Lib.hid (row4 QY1.out (.string (mkB x.c.id)) (.bool true) (.string (mkB x.c.id)) (.int .i64 x.c.kind) (.int .i64 x.c.x) (.int .i64 x.c.y) (.slice B11 x.c.refs.length r11) (.slice B12 x.c.tags.length r12))
          have OY2 : Hid (Below wr.heap.size wr ((((((((Y1.setCell ⟨wr.heap.size, 0, none⟩ (.string (mkB x.c.id))).setCell ⟨wr.heap.size, 1, none⟩ (.bool true)).setCell ⟨wr.heap.size, 3, none⟩ (.string (mkB x.c.id))).setCell ⟨wr.heap.size, 4, none⟩ (.int .i64 x.c.kind)).setCell ⟨wr.heap.size, 5, none⟩ (.int .i64 x.c.x)).setCell ⟨wr.heap.size, 6, none⟩ (.int .i64 x.c.y)).setCell ⟨wr.heap.size, 7, none⟩ (.slice B11 x.c.refs.length r11)).setCell ⟨wr.heap.size, 8, none⟩ (.slice B12 x.c.tags.length r12)).drew) := Lib.hid (by (repeat (first | with_reducible exact OY1.out | with_reducible refine Below.drew ?_ | with_reducible refine Below.setCell ?_ (by exact Nat.le_refl _) _)); done)
          clear hHeld XF C0 C1 C3 C4 C5 C6 C7 C8
          generalize ((((((((Y1.setCell ⟨wr.heap.size, 0, none⟩ (.string (mkB x.c.id))).setCell ⟨wr.heap.size, 1, none⟩ (.bool true)).setCell ⟨wr.heap.size, 3, none⟩ (.string (mkB x.c.id))).setCell ⟨wr.heap.size, 4, none⟩ (.int .i64 x.c.kind)).setCell ⟨wr.heap.size, 5, none⟩ (.int .i64 x.c.x)).setCell ⟨wr.heap.size, 6, none⟩ (.int .i64 x.c.y)).setCell ⟨wr.heap.size, 7, none⟩ (.slice B11 x.c.refs.length r11)).setCell ⟨wr.heap.size, 8, none⟩ (.slice B12 x.c.tags.length r12)).drew = Y2 at *
          clear QY1 OY1
          have C0 := cell_of_row Y2 wr.heap.size 0 _ _ _ QY2.out
          have C1 := cell_of_row Y2 wr.heap.size 1 _ _ _ QY2.out
          simp at C0 C1
          have D2 := E20 Y2 OY2.out
          gi_wp2_with fail
          refine wpIn_wide.2 ?_
          go_quiet (fail)
          have QY3 := Lib.hid (show (Y2.drewN nq).heap[wr.heap.size]? = _ from QY2.out)
          have OY3 : Hid (Below wr.heap.size wr (Y2.drewN nq)) := Lib.hid (below_drewN OY2.out nq)
          clear QY2 OY2
          generalize Y2.drewN nq = Y3 at *
          clear nq
          clear C0 C1 D2
          have C0 := cell_of_row Y3 wr.heap.size 0 _ _ _ QY3.out
          have C1 := cell_of_row Y3 wr.heap.size 1 _ _ _ QY3.out
          have C2 := cell_of_row Y3 wr.heap.size 2 _ _ _ QY3.out
          have C3 := cell_of_row Y3 wr.heap.size 3 _ _ _ QY3.out
          have C4 := cell_of_row Y3 wr.heap.size 4 _ _ _ QY3.out
          have C5 := cell_of_row Y3 wr.heap.size 5 _ _ _ QY3.out
          have C6 := cell_of_row Y3 wr.heap.size 6 _ _ _ QY3.out
          have C7 := cell_of_row Y3 wr.heap.size 7 _ _ _ QY3.out
          have C8 := cell_of_row Y3 wr.heap.size 8 _ _ _ QY3.out
          have C9 := cell_of_row Y3 wr.heap.size 9 _ _ _ QY3.out
          have C10 := cell_of_row Y3 wr.heap.size 10 _ _ _ QY3.out
          have C11 := cell_of_row Y3 wr.heap.size 11 _ _ _ QY3.out
          have C12 := cell_of_row Y3 wr.heap.size 12 _ _ _ QY3.out
          have C13 := cell_of_row Y3 wr.heap.size 13 _ _ _ QY3.out
          have C14 := cell_of_row Y3 wr.heap.size 14 _ _ _ QY3.out
          simp at C0 C1 C2 C3 C4 C5 C6 C7 C8 C9 C10 C11 C12 C13 C14
          have ED : (dvC (⟨x.c.id, true, false, x, zeroRO⟩ : DV)).toArray = #[.string (mkB x.c.id), .bool true, .bool false, .string (mkB x.c.id), .int .i64 x.c.kind, .int .i64 x.c.x, .int .i64 x.c.y, .slice B11 x.c.refs.length r11, .slice B12 x.c.tags.length r12, .string (mkB []), .int .i64 0, .int .i64 0, .int .i64 0, .slice none 0 0, .slice none 0 0] := by unfold dvC roC; rw [V11.out, V12.out]; rfl
          have hJ : J pre Y3 := HJ.out pre wr Y3 PH.out.inv OY3.out
          obtain ⟨fn, tmps, assign, body, hy, hR⟩ := hY pre (⟨x.c.id, true, false, x, zeroRO⟩ : DV) Y3 ⟨⟨HG1.out.1, zeroIs _⟩, HG1.out.2.1.id, HG1.out.2, zeroSz⟩ hJ (by have := PH.out.len; omega)
          rw [ED] at hy
          try dsimp only at hy
          clear ED hJ
          gi_wp2_with fail
          refine hR.mono ?_
          clear hR hy
          rintro e W3 (⟨rfl, hJ3, hK3⟩ | ⟨rfl, hJx3⟩)
          · have hK4 : Below w0.heap.size wr W3 := (OY3.out.mono PH.out.old.size).trans hK3
            have HJ3 := Lib.hid hJ3
            have HK4 := Lib.hid hK4
            clear hJ3 hK3 hK4
            gi_wp2_with fail
            go_roundw
            case rel => exact ⟨_, _, _, _, _, _, f', a'', (y :: b''), pre ++ [(⟨x.c.id, true, false, x, zeroRO⟩ : DV)], rfl, rfl, ⟨_, rfl⟩, by omega, by omega, Lib.hid (PH.out.step (d := (⟨x.c.id, true, false, x, zeroRO⟩ : DV)) (by rw [pairsV, if_neg (At.lt_ne flt.out), if_pos flt.out]) RT1.out PH.out.rb (fun r hr => List.mem_cons_of_mem _ hr) (fun r hr => hr) HK1.out PH.out.nb (by omega) PH.out.cb (by omega) HJ3.out HK4.out)⟩
            case measure => simp [slN]
          · gi_wp2_with fail
            refine bodyPost_ret (results_none rfl _ _ _) rfl ?_
            exact ⟨⟨_, rfl⟩, .inr ⟨_, trivial, hJx3⟩⟩
        · have hid : Hid (y.c.id = x.c.id) := Lib.hid (by simpa using f3 : x.c.id = y.c.id).symm
          have f4 : (y.c.id == x.c.id) = true := by rw [hid.out]; simp
          obtain ⟨f', rfl⟩ : ∃ f', f = f' + 1 := ⟨f - 1, by have h1 := PH.out.fuel; have h2 := PH.out.na; have h3 := PH.out.nb; simp at h2 h3; omega⟩
          obtain ⟨k1, hk1⟩ : ∃ k1, k1 = a''.length := ⟨_, rfl⟩
          obtain rfl : n1 = k1 + 1 := by rw [PH.out.na, hk1]; rfl
          have HK1 := Lib.hid hk1
          clear hk1
          obtain ⟨k2, hk2⟩ : ∃ k2, k2 = b''.length := ⟨_, rfl⟩
          obtain rfl : n2 = k2 + 1 := by rw [PH.out.nb, hk2]; rfl
          have HK2 := Lib.hid hk2
          clear hk2
          have KK : ∀ {a : Addr} {v : Value}, a.block < wr.heap.size → wr.cell? a = some v → ∀ u, OldB wr u → u.cell? a = some v := fun hp hc u hu => (World.cell?_of_block (w := wr) (hu.block _ hp)).trans hc
          obtain ⟨b1, o1, hA1, hb1, e10, e11, e12, e13, e14, e15⟩ := ros_head (PH.out.ra.below PH.out.old)
          subst hA1
          have HG1 := Lib.hid (PH.out.oa x (by simp))
          have HO1 := HG1.out.1
          obtain ⟨B11, r11, v11, -⟩ := HO1.rs
          obtain ⟨B12, r12, v12, -⟩ := HO1.ts
          rw [v11] at e14
          rw [v12] at e15
          have V11 := Lib.hid v11
          have V12 := Lib.hid v12
          have t1 := mkB_tl x.c.id
          clear HO1 v11 v12
          have E10 := KK (a := ⟨b1, _, none⟩) hb1 e10
          have E11 := KK (a := ⟨b1, _, none⟩) hb1 e11
          have E12 := KK (a := ⟨b1, _, none⟩) hb1 e12
          have E13 := KK (a := ⟨b1, _, none⟩) hb1 e13
          have E14 := KK (a := ⟨b1, _, none⟩) hb1 e14
          have E15 := KK (a := ⟨b1, _, none⟩) hb1 e15
          clear e10 e11 e12 e13 e14 e15
          obtain ⟨b2, o2, hA2, hb2, e20, e21, e22, e23, e24, e25⟩ := ros_head (PH.out.rb.below PH.out.old)
          subst hA2
          have HG2 := Lib.hid (PH.out.ob y (by simp))
          have HO2 := HG2.out.1
          obtain ⟨B21, r21, v21, -⟩ := HO2.rs
          obtain ⟨B22, r22, v22, -⟩ := HO2.ts
          rw [v21] at e24
          rw [v22] at e25
          have V21 := Lib.hid v21
          have V22 := Lib.hid v22
          have t2 := mkB_tl y.c.id
          clear HO2 v21 v22
          have E20 := KK (a := ⟨b2, _, none⟩) hb2 e20
          have E21 := KK (a := ⟨b2, _, none⟩) hb2 e21
          have E22 := KK (a := ⟨b2, _, none⟩) hb2 e22
          have E23 := KK (a := ⟨b2, _, none⟩) hb2 e23
          have E24 := KK (a := ⟨b2, _, none⟩) hb2 e24
          have E25 := KK (a := ⟨b2, _, none⟩) hb2 e25
          clear e20 e21 e22 e23 e24 e25
          clear KK
          have ca : k1 + 1 ≤ c1 := PH.out.ca
          have ca1 : (1 : Int) ≤ (c1 : Int) := by omega
          have i1 : (1 : Int) ≤ (k1 : Int) + 1 := by omega
          have i2 : (0 : Int) < (k1 : Int) + 1 := by omega
          have cb : k2 + 1 ≤ c2 := PH.out.cb
          have cb1 : (1 : Int) ≤ (c2 : Int) := by omega
          have j1 : (1 : Int) ≤ (k2 : Int) + 1 := by omega
          have j2 : (0 : Int) < (k2 : Int) + 1 := by omega
          have j3 : (((k2 : Nat) : Int) + 1 == 0) = false := by simp; omega
          gi_wp2_with fail
          obtain ⟨X, hX⟩ : ∃ X, X = wr.alloc (.cells #[.string ⟨#[]⟩, .bool false, .bool false, .string ⟨#[]⟩, .int .i64 0, .int .i64 0, .int .i64 0, .slice none 0 0, .slice none 0 0, .string ⟨#[]⟩, .int .i64 0, .int .i64 0, .int .i64 0, .slice none 0 0, .slice none 0 0] 45) := ⟨_, rfl⟩
          rw [← hX]
          have QX : Hid (X.heap[wr.heap.size]? = some (.cells #[.string (mkB []), .bool false, .bool false, .string (mkB []), .int .i64 0, .int .i64 0, .int .i64 0, .slice none 0 0, .slice none 0 0, .string (mkB []), .int .i64 0, .int .i64 0, .int .i64 0, .slice none 0 0, .slice none 0 0] 45 (0, 0))) := Lib.hid (by rw [hX]; exact heap_alloc_new wr _)
          have OX : Hid (Below wr.heap.size wr X) := Lib.hid (by rw [hX]; exact (Below.refl _ _).alloc (Nat.le_refl _) _)
          clear hX
          have D1 := E10 X OX.out
          have D2 := E20 X OX.out
          refine wpIn_wide.2 ?_
          go_quiet (fail)
          have QY1 := Lib.hid (show (X.drewN nq).heap[wr.heap.size]? = _ from QX.out)
          have OY1 : Hid (Below wr.heap.size wr (X.drewN nq)) := Lib.hid (below_drewN OX.out nq)
          clear QX OX
          generalize X.drewN nq = Y1 at *
          clear nq
          clear D1 D2
          have C0 := cell_of_row Y1 wr.heap.size 0 _ _ _ QY1.out
          have C1 := cell_of_row Y1 wr.heap.size 1 _ _ _ QY1.out
          have C3 := cell_of_row Y1 wr.heap.size 3 _ _ _ QY1.out
          have C4 := cell_of_row Y1 wr.heap.size 4 _ _ _ QY1.out
          have C5 := cell_of_row Y1 wr.heap.size 5 _ _ _ QY1.out
          have C6 := cell_of_row Y1 wr.heap.size 6 _ _ _ QY1.out
          have C7 := cell_of_row Y1 wr.heap.size 7 _ _ _ QY1.out
          have C8 := cell_of_row Y1 wr.heap.size 8 _ _ _ QY1.out
          simp at C0 C1 C3 C4 C5 C6 C7 C8
          have XF : ∀ f, Y1.frozen? ⟨wr.heap.size, f, none⟩ = false := fun f => free_blk QY1.out f
          gi_wp2_with fail
          refine wpIn_wide.2 ?_
          (refine wp_region_noPanic ?_; refine wp_region_held_drew (S := (OldB wr)) (by kernel_rfl) ?_ (fun hHeld => ?_); exact OY1.out.drew)
          (refine tkW 0 ?_; try simp only [gmS])
          (refine tkW 1 ?_; try simp only [gmS])
          (refine tkW 2 ?_; try simp only [gmS])
          (refine tkW 3 ?_; try simp only [gmS])
          (refine tkW 4 ?_; try simp only [gmS])
          (refine tkW 5 ?_; try simp only [gmS])
          (refine tkW 6 ?_; try simp only [gmS])
          (refine tkW 7 ?_; try simp only [gmS])
          (refine tkW 8 ?_; try simp only [gmS])
          (refine tkW 9 ?_; try simp only [gmS])
          (refine rdW 10 (fun K hK => ?_); go_simp)
          (refine hK.out _ _ (by unfold OldB; (repeat (first | with_reducible exact OY1.out | with_reducible refine Below.drew ?_ | with_reducible refine Below.setCell ?_ (by exact Nat.le_refl _) _)); done) (fun hHeld2 => ?_); clear hK K hHeld; have hHeld := hHeld2; clear hHeld2; try simp only [gmS])
          (refine tkW 11 ?_; try simp only [gmS])
          (refine rdW 12 (fun K hK => ?_); go_simp)
          (refine hK.out _ _ (by unfold OldB; (repeat (first | with_reducible exact OY1.out | with_reducible refine Below.drew ?_ | with_reducible refine Below.setCell ?_ (by exact Nat.le_refl _) _)); done) (fun hHeld2 => ?_); clear hK K hHeld; have hHeld := hHeld2; clear hHeld2; try simp only [gmS])
          (refine tkW 13 ?_; try simp only [gmS])
          (refine rdW 14 (fun K hK => ?_); go_simp)
          (refine hK.out _ _ (by unfold OldB; (repeat (first | with_reducible exact OY1.out | with_reducible refine Below.drew ?_ | with_reducible refine Below.setCell ?_ (by exact Nat.le_refl _) _)); done) (fun hHeld2 => ?_); clear hK K hHeld; have hHeld := hHeld2; clear hHeld2; try simp only [gmS])
          (refine tkW 15 ?_; try simp only [gmS])
          (refine wpAnyH_done (by kernel_rfl) ?_ _; refine NoPanic.normal ?_)
          have RT1 := Lib.hid (ros_tail PH.out.ra (c := c1) (by have := PH.out.na; omega))
          generalize (if c1 = 1 then some (⟨b1, o1, none⟩ : Addr) else some ⟨b1, o1 + 6, none⟩) = G1 at *
          have QY2 := Lib.hid (row4 QY1.out (.string (mkB x.c.id)) (.bool true) (.string (mkB x.c.id)) (.int .i64 x.c.kind) (.int .i64 x.c.x) (.int .i64 x.c.y) (.slice B11 x.c.refs.length r11) (.slice B12 x.c.tags.length r12))
          have OY2 : Hid (Below wr.heap.size wr ((((((((Y1.setCell ⟨wr.heap.size, 0, none⟩ (.string (mkB x.c.id))).setCell ⟨wr.heap.size, 1, none⟩ (.bool true)).setCell ⟨wr.heap.size, 3, none⟩ (.string (mkB x.c.id))).setCell ⟨wr.heap.size, 4, none⟩ (.int .i64 x.c.kind)).setCell ⟨wr.heap.size, 5, none⟩ (.int .i64 x.c.x)).setCell ⟨wr.heap.size, 6, none⟩ (.int .i64 x.c.y)).setCell ⟨wr.heap.size, 7, none⟩ (.slice B11 x.c.refs.length r11)).setCell ⟨wr.heap.size, 8, none⟩ (.slice B12 x.c.tags.length r12)).drew) := Lib.hid (by (repeat (first | with_reducible exact OY1.out | with_reducible refine Below.drew ?_ | with_reducible refine Below.setCell ?_ (by exact Nat.le_refl _) _)); done)
          clear hHeld XF C0 C1 C3 C4 C5 C6 C7 C8
          generalize ((((((((Y1.setCell ⟨wr.heap.size, 0, none⟩ (.string (mkB x.c.id))).setCell ⟨wr.heap.size, 1, none⟩ (.bool true)).setCell ⟨wr.heap.size, 3, none⟩ (.string (mkB x.c.id))).setCell ⟨wr.heap.size, 4, none⟩ (.int .i64 x.c.kind)).setCell ⟨wr.heap.size, 5, none⟩ (.int .i64 x.c.x)).setCell ⟨wr.heap.size, 6, none⟩ (.int .i64 x.c.y)).setCell ⟨wr.heap.size, 7, none⟩ (.slice B11 x.c.refs.length r11)).setCell ⟨wr.heap.size, 8, none⟩ (.slice B12 x.c.tags.length r12)).drew = Y2 at *
          clear QY1 OY1
          have C0 := cell_of_row Y2 wr.heap.size 0 _ _ _ QY2.out
          have C1 := cell_of_row Y2 wr.heap.size 1 _ _ _ QY2.out
          simp at C0 C1
          have D2 := E20 Y2 OY2.out
          gi_wp2_with fail
          refine wpIn_wide.2 ?_
          go_quiet (fail)
          have QY3 := Lib.hid (show (Y2.drewN nq).heap[wr.heap.size]? = _ from QY2.out)
          have OY3 : Hid (Below wr.heap.size wr (Y2.drewN nq)) := Lib.hid (below_drewN OY2.out nq)
          clear QY2 OY2
          generalize Y2.drewN nq = Y3 at *
          clear nq
          clear C0 C1 D2
          have C0 := cell_of_row Y3 wr.heap.size 0 _ _ _ QY3.out
          have C2 := cell_of_row Y3 wr.heap.size 2 _ _ _ QY3.out
          have C9 := cell_of_row Y3 wr.heap.size 9 _ _ _ QY3.out
          have C10 := cell_of_row Y3 wr.heap.size 10 _ _ _ QY3.out
          have C11 := cell_of_row Y3 wr.heap.size 11 _ _ _ QY3.out
          have C12 := cell_of_row Y3 wr.heap.size 12 _ _ _ QY3.out
          have C13 := cell_of_row Y3 wr.heap.size 13 _ _ _ QY3.out
          have C14 := cell_of_row Y3 wr.heap.size 14 _ _ _ QY3.out
          simp at C0 C2 C9 C10 C11 C12 C13 C14
          have XF : ∀ f, Y3.frozen? ⟨wr.heap.size, f, none⟩ = false := fun f => free_blk QY3.out f
          gi_wp2_with fail
          refine wpIn_wide.2 ?_
          (refine wp_region_noPanic ?_; refine wp_region_held_drew (S := (OldB wr)) (by kernel_rfl) ?_ (fun hHeld => ?_); exact OY3.out.drew)
          (refine tkW 0 ?_; try simp only [gmS])
          (refine tkW 1 ?_; try simp only [gmS])
          (refine tkW 2 ?_; try simp only [gmS])
          (refine tkW 3 ?_; try simp only [gmS])
          (refine tkW 4 ?_; try simp only [gmS])
          (refine tkW 5 ?_; try simp only [gmS])
          (refine tkW 6 ?_; try simp only [gmS])
          (refine tkW 7 ?_; try simp only [gmS])
          (refine tkW 8 ?_; try simp only [gmS])
          (refine tkW 9 ?_; try simp only [gmS])
          (refine rdW 10 (fun K hK => ?_); go_simp)
          (refine hK.out _ _ (by unfold OldB; (repeat (first | with_reducible exact OY3.out | with_reducible refine Below.drew ?_ | with_reducible refine Below.setCell ?_ (by exact Nat.le_refl _) _)); done) (fun hHeld2 => ?_); clear hK K hHeld; have hHeld := hHeld2; clear hHeld2; try simp only [gmS])
          (refine tkW 11 ?_; try simp only [gmS])
          (refine rdW 12 (fun K hK => ?_); go_simp)
          (refine hK.out _ _ (by unfold OldB; (repeat (first | with_reducible exact OY3.out | with_reducible refine Below.drew ?_ | with_reducible refine Below.setCell ?_ (by exact Nat.le_refl _) _)); done) (fun hHeld2 => ?_); clear hK K hHeld; have hHeld := hHeld2; clear hHeld2; try simp only [gmS])
          (refine tkW 13 ?_; try simp only [gmS])
          (refine rdW 14 (fun K hK => ?_); go_simp)
          (refine hK.out _ _ (by unfold OldB; (repeat (first | with_reducible exact OY3.out | with_reducible refine Below.drew ?_ | with_reducible refine Below.setCell ?_ (by exact Nat.le_refl _) _)); done) (fun hHeld2 => ?_); clear hK K hHeld; have hHeld := hHeld2; clear hHeld2; try simp only [gmS])
          (refine tkW 15 ?_; try simp only [gmS])
          (refine wpAnyH_done (by kernel_rfl) ?_ _; refine NoPanic.normal ?_)
          have RT2 := Lib.hid (ros_tail PH.out.rb (c := c2) (by have := PH.out.nb; omega))
          generalize (if c2 = 1 then some (⟨b2, o2, none⟩ : Addr) else some ⟨b2, o2 + 6, none⟩) = G2 at *
          have QY4 := Lib.hid (row6 QY3.out (.string (mkB y.c.id)) (.bool true) (.string (mkB y.c.id)) (.int .i64 y.c.kind) (.int .i64 y.c.x) (.int .i64 y.c.y) (.slice B21 y.c.refs.length r21) (.slice B22 y.c.tags.length r22))
          have OY4 : Hid (Below wr.heap.size wr ((((((((Y3.setCell ⟨wr.heap.size, 0, none⟩ (.string (mkB y.c.id))).setCell ⟨wr.heap.size, 2, none⟩ (.bool true)).setCell ⟨wr.heap.size, 9, none⟩ (.string (mkB y.c.id))).setCell ⟨wr.heap.size, 10, none⟩ (.int .i64 y.c.kind)).setCell ⟨wr.heap.size, 11, none⟩ (.int .i64 y.c.x)).setCell ⟨wr.heap.size, 12, none⟩ (.int .i64 y.c.y)).setCell ⟨wr.heap.size, 13, none⟩ (.slice B21 y.c.refs.length r21)).setCell ⟨wr.heap.size, 14, none⟩ (.slice B22 y.c.tags.length r22)).drew) := Lib.hid (by (repeat (first | with_reducible exact OY3.out | with_reducible refine Below.drew ?_ | with_reducible refine Below.setCell ?_ (by exact Nat.le_refl _) _)); done)
          clear hHeld XF C0 C2 C9 C10 C11 C12 C13 C14
          generalize ((((((((Y3.setCell ⟨wr.heap.size, 0, none⟩ (.string (mkB y.c.id))).setCell ⟨wr.heap.size, 2, none⟩ (.bool true)).setCell ⟨wr.heap.size, 9, none⟩ (.string (mkB y.c.id))).setCell ⟨wr.heap.size, 10, none⟩ (.int .i64 y.c.kind)).setCell ⟨wr.heap.size, 11, none⟩ (.int .i64 y.c.x)).setCell ⟨wr.heap.size, 12, none⟩ (.int .i64 y.c.y)).setCell ⟨wr.heap.size, 13, none⟩ (.slice B21 y.c.refs.length r21)).setCell ⟨wr.heap.size, 14, none⟩ (.slice B22 y.c.tags.length r22)).drew = Y4 at *
          clear QY3 OY3
          have C0 := cell_of_row Y4 wr.heap.size 0 _ _ _ QY4.out
          have C1 := cell_of_row Y4 wr.heap.size 1 _ _ _ QY4.out
          have C2 := cell_of_row Y4 wr.heap.size 2 _ _ _ QY4.out
          have C3 := cell_of_row Y4 wr.heap.size 3 _ _ _ QY4.out
          have C4 := cell_of_row Y4 wr.heap.size 4 _ _ _ QY4.out
          have C5 := cell_of_row Y4 wr.heap.size 5 _ _ _ QY4.out
          have C6 := cell_of_row Y4 wr.heap.size 6 _ _ _ QY4.out
          have C7 := cell_of_row Y4 wr.heap.size 7 _ _ _ QY4.out
          have C8 := cell_of_row Y4 wr.heap.size 8 _ _ _ QY4.out
          have C9 := cell_of_row Y4 wr.heap.size 9 _ _ _ QY4.out
          have C10 := cell_of_row Y4 wr.heap.size 10 _ _ _ QY4.out
          have C11 := cell_of_row Y4 wr.heap.size 11 _ _ _ QY4.out
          have C12 := cell_of_row Y4 wr.heap.size 12 _ _ _ QY4.out
          have C13 := cell_of_row Y4 wr.heap.size 13 _ _ _ QY4.out
          have C14 := cell_of_row Y4 wr.heap.size 14 _ _ _ QY4.out
          simp at C0 C1 C2 C3 C4 C5 C6 C7 C8 C9 C10 C11 C12 C13 C14
          have ED : (dvC (⟨x.c.id, true, true, x, y⟩ : DV)).toArray = #[.string (mkB y.c.id), .bool true, .bool true, .string (mkB x.c.id), .int .i64 x.c.kind, .int .i64 x.c.x, .int .i64 x.c.y, .slice B11 x.c.refs.length r11, .slice B12 x.c.tags.length r12, .string (mkB y.c.id), .int .i64 y.c.kind, .int .i64 y.c.x, .int .i64 y.c.y, .slice B21 y.c.refs.length r21, .slice B22 y.c.tags.length r22] := by unfold dvC roC; rw [V11.out, V12.out, V21.out, V22.out]; rw [hid.out]; rfl
          have hJ : J pre Y4 := HJ.out pre wr Y4 PH.out.inv OY4.out
          obtain ⟨fn, tmps, assign, body, hy, hR⟩ := hY pre (⟨x.c.id, true, true, x, y⟩ : DV) Y4 ⟨⟨HG1.out.1, HG2.out.1⟩, HG1.out.2.1.id, HG1.out.2, HG2.out.2⟩ hJ (by have := PH.out.len; omega)
          rw [ED] at hy
          try dsimp only at hy
          clear ED hJ
          gi_wp2_with fail
          refine hR.mono ?_
          clear hR hy
          rintro e W3 (⟨rfl, hJ3, hK3⟩ | ⟨rfl, hJx3⟩)
          · have hK4 : Below w0.heap.size wr W3 := (OY4.out.mono PH.out.old.size).trans hK3
            have HJ3 := Lib.hid hJ3
            have HK4 := Lib.hid hK4
            clear hJ3 hK3 hK4
            gi_wp2_with fail
            go_roundw
            case rel => exact ⟨_, _, _, _, _, _, f', a'', b'', pre ++ [(⟨x.c.id, true, true, x, y⟩ : DV)], rfl, rfl, ⟨_, rfl⟩, by omega, by omega, Lib.hid (PH.out.step (d := (⟨x.c.id, true, true, x, y⟩ : DV)) (by rw [pairsV, if_pos hid.out.symm]) RT1.out RT2.out (fun r hr => List.mem_cons_of_mem _ hr) (fun r hr => List.mem_cons_of_mem _ hr) HK1.out HK2.out (by omega) (by omega) (by omega) HJ3.out HK4.out)⟩
            case measure => simp [slN]; omega
          · gi_wp2_with fail
            refine bodyPost_ret (results_none rfl _ _ _) rfl ?_
            exact ⟨⟨_, rfl⟩, .inr ⟨_, trivial, hJx3⟩⟩
abbrev GV (w0 : World) := { x : DV // Gd w0 x }
theorem pairs_stops (A B : Option Addr) (n c m d : Nat) (a b : List RO) (Ba Bb N : Nat) (w0 w : World) (hn : n = a.length) (hm : m = b.length) (hl : n ≤ 100000) (hl2 : m ≤ 100000) (hN : N = n + m) (hc : n ≤ c) (hd : m ≤ d)
    (hA : Rd w0 A (rosC a)) (hB : Rd w0 B (rosC b)) (oa : ∀ r ∈ a, ObIs w0 r ∧ ObSz r.c ∧ r.c.refs.length ≤ 100000) (ob : ∀ r ∈ b, ObIs w0 r ∧ ObSz r.c ∧ r.c.refs.length ≤ 100000) (hw : Below w0.heap.size w0 w) (ha : Ba < w.heap.size) (hb : Bb < w.heap.size) (hBa : w.cell? ⟨Ba, 0, none⟩ = some (.slice A n c)) (hBb : w.cell? ⟨Bb, 0, none⟩ = some (.slice B m d)) :
    SeqStopsK Fence.wide 3 Tryz.prog 88 #[.pointer (some ⟨Ba, 0, none⟩), .pointer (some ⟨Bb, 0, none⟩)] (fun x : GV w0 => #[.agg (dvC x.1).toArray]) (Below w0.heap.size) (fun ys => ys.map (·.1) = pairsV N a b) (fun _ => True) N w := fun l J Jx W hW hJ _ hY h0 => by
  refine (pairs1 A B n c m d a b Ba Bb l N w0 (fun pre W => ∃ q : List (GV w0), q.map (·.1) = pre ∧ J q W) (fun pre W => ∃ q : List (GV w0), q.map (·.1) = pre ∧ Jx q W) hn hm hl hl2 hN hc hd hA hB oa ob ?_ W (hw.trans (Below.mono hW hw.size)) ?_ ((hW.cell (p := ⟨Ba, 0, none⟩) ha).trans hBa) ((hW.cell (p := ⟨Bb, 0, none⟩) hb).trans hBb) ⟨[], rfl, h0⟩).mono ?_
  · rintro pre x W' hg ⟨q, hq, hJq⟩ hlen
    refine (hY q ⟨x, hg⟩ W' hJq (by rw [← hq] at hlen; simpa using hlen)).mono ?_
    rintro e W'' (⟨h1, h2, h3⟩ | ⟨h1, h2⟩)
    · exact .inl ⟨h1, ⟨_, by rw [List.map_append, hq]; rfl, h2⟩, h3⟩
    · exact .inr ⟨h1, ⟨_, by rw [List.map_append, hq]; rfl, h2⟩⟩
  · rintro pre W1 W2 ⟨q, hq, hJq⟩ hb
    exact ⟨q, hq, hJ q W1 W2 none hJq ⟨hb.os, hb.tape, hb.output, hb.size, fun k hk _ => hb.block k hk⟩ (fun r e => by cases e)⟩
  · rintro e W' ⟨h1, ⟨ys, h2, q, h3, h4⟩ | ⟨pre, _, q, h3, h4⟩⟩
    · exact ⟨h1, .inl ⟨q, h3.trans h2, h4⟩⟩
    · exact ⟨h1, .inr ⟨q, trivial, h4⟩⟩
end Go.Proofs.YtlejeelmlclnkaaGreatDoor
