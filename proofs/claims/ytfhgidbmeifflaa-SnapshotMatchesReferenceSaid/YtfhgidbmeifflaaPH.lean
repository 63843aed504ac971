/- REFERENCE: Write. -/
import Derived.Test.YtfhgidbmeifflaaPG
import Derived.Test.YtfhgidbmeifflaaOF
import Derived.Deep.DeepCutAuto
set_option linter.unusedSimpArgs false
set_option linter.unusedVariables false
namespace Go.Proofs.Ytfhgidbmeifflaa
open Go.RowKit Go.Maps Go.ChangeMaps Go.MapKept Go.WideShapes Go.WideMaps

/-- one pair is put -/
def rput (t : RSh) (k v : Tx) : RSh := { t with count := t.count + 1, newest := withoutL t.newest k ++ [⟨k, v, t.count + 1⟩], kept := t.kept ++ [⟨k, v, t.count + 1⟩] }
def rdrop (t : RSh) (k : Tx) : RSh := { t with newest := withoutL t.newest k }
def rputs (t : RSh) (ps : List (Tx × Tx)) : RSh := ps.foldl (fun t p => rput t p.1 p.2) t
def rdrops (t : RSh) (d : List Tx) : RSh := d.foldl rdrop t
def rwriteF (t : RSh) (ps : List (Tx × Tx)) (d : List Tx) : RSh × Nat × Nat :=
  if d.any (fun x => decide (x ∈ ps.map (·.1))) then (t, 0, 1)
  else if longD d || longP ps then (t, 0, 2)
  else ({ rputs (rdrops t d) ps with ver := t.ver + 1 }, t.ver + 1, 0)
theorem rdrops_len (d : List Tx) : ∀ t : RSh, (rdrops t d).newest.length ≤ t.newest.length := by
  induction d with
  | nil => intro t; exact Nat.le_refl _
  | cons k d ih => intro t; exact Nat.le_trans (ih (rdrop t k)) (List.length_filter_le _ _)
theorem rdrops_take (t : RSh) (d : List Tx) {i : Nat} (h : i < d.length) : rdrops t (d.take (i + 1)) = rdrop (rdrops t (d.take i)) d[i] := by
  unfold rdrops; rw [List.take_succ_eq_append_getElem h, List.foldl_append]; rfl
theorem rputs_len (ps : List (Tx × Tx)) : ∀ t : RSh, (rputs t ps).newest.length ≤ t.newest.length + ps.length ∧ (rputs t ps).kept.length = t.kept.length + ps.length ∧ (rputs t ps).count = t.count + ps.length := by
  induction ps with
  | nil => intro t; exact ⟨Nat.le_refl _, rfl, rfl⟩
  | cons p ps ih =>
    intro t
    obtain ⟨h1, h2, h3⟩ := ih (rput t p.1 p.2)
    have e1 : (rput t p.1 p.2).newest.length ≤ t.newest.length + 1 := by
      show (withoutL t.newest p.1 ++ [_]).length ≤ _
      have := List.length_filter_le (fun e : Ent => decide (e.key ≠ p.1)) t.newest
      rw [List.length_append]
      exact Nat.add_le_add_right this 1
    have e2 : (rput t p.1 p.2).kept.length = t.kept.length + 1 := by show (t.kept ++ [_]).length = _; rw [List.length_append]; rfl
    have e3 : (rput t p.1 p.2).count = t.count + 1 := rfl
    refine ⟨?_, ?_, ?_⟩
    · show (rputs (rput t p.1 p.2) ps).newest.length ≤ _; rw [List.length_cons]; omega
    · show (rputs (rput t p.1 p.2) ps).kept.length = _; rw [List.length_cons]; omega
    · show (rputs (rput t p.1 p.2) ps).count = _; rw [List.length_cons]; omega
theorem rputs_take (t : RSh) (ps : List (Tx × Tx)) {i : Nat} (h : i < ps.length) : rputs t (ps.take (i + 1)) = rput (rputs t (ps.take i)) ps[i].1 ps[i].2 := by
  unfold rputs; rw [List.take_succ_eq_append_getElem h, List.foldl_append]; rfl
theorem rdrops_kept (d : List Tx) : ∀ t : RSh, (rdrops t d).kept = t.kept ∧ (rdrops t d).count = t.count ∧ (rdrops t d).ver = t.ver := by
  induction d with
  | nil => intro t; exact ⟨rfl, rfl, rfl⟩
  | cons k d ih => intro t; exact ih (rdrop t k)
theorem rputs_ver (ps : List (Tx × Tx)) : ∀ t : RSh, (rputs t ps).ver = t.ver := by
  induction ps with
  | nil => intro t; rfl
  | cons p ps ih => intro t; exact ih (rput t p.1 p.2)
theorem RefMem.countSet {w : World} {q : Nat} {G : Nat → Prop} {t : RSh} {vn vr vo vk : Value} {vs : List Value} (h : RefMem w q G t vn vr vo vk vs) (c : Nat) : RefMem (w.setCell ⟨q, 5, none⟩ (.int .i64 (c : Int))) q G { t with count := c } vn vr vo vk vs := by
  obtain ⟨a1, a2, a3, a4, a5⟩ := h.setQ 5 (.int .i64 (c : Int))
  refine ⟨?_, a1, a2, a3, h.lr, a4, h.lo, a5, h.gq, h.gn, h.gk, h.gr, h.go, h.gl, fun g hg => ?_⟩
  · simp [World.setCell, Array.getElem?_modify, h.blk]
  · simpa [World.setCell] using h.lt g hg
theorem RefMem.verSet {w : World} {q : Nat} {G : Nat → Prop} {t : RSh} {vn vr vo vk : Value} {vs : List Value} (h : RefMem w q G t vn vr vo vk vs) (c : Nat) : RefMem (w.setCell ⟨q, 0, none⟩ (.int .i64 (c : Int))) q G { t with ver := c } vn vr vo vk vs := by
  obtain ⟨a1, a2, a3, a4, a5⟩ := h.setQ 0 (.int .i64 (c : Int))
  refine ⟨?_, a1, a2, a3, h.lr, a4, h.lo, a5, h.gq, h.gn, h.gk, h.gr, h.go, h.gl, fun g hg => ?_⟩
  · simp [World.setCell, Array.getElem?_modify, h.blk]
  · simpa [World.setCell] using h.lt g hg
/-- nothing but a block has changed -/
def SameBut (q : Nat) (X w' : World) : Prop := ∀ k, k < X.heap.size → k ≠ q → w'.heap[k]? = X.heap[k]?
/-- the arguments of the reference's Write -/
structure RArg (w : World) (G : Nat → Prop) (A : Option Addr) (n : Nat) (l : List Tx) : Prop where
  len : n = l.length
  rd : Rd w A (kv l)
  out : ∀ b off, A = some ⟨b, off, none⟩ → ¬ G b
  le : l.length ≤ 100
  sz : ∀ t ∈ l, t.length ≤ 1000000
theorem RArg.at_ {w : World} {G : Nat → Prop} {A : Option Addr} {n : Nat} {l : List Tx} (h : RArg w G A n l) {i : Nat} (hi : i < l.length) : ∃ b off, A = some ⟨b, off, none⟩ ∧ b < w.heap.size ∧ w.cell? ⟨b, off + i, none⟩ = some (.string (mkB l[i])) := by
  obtain ⟨b, off, e, hb, hc⟩ := h.rd (by unfold kv; rw [List.length_map]; omega)
  exact ⟨b, off, e, hb, hc i _ (kv_get hi)⟩
theorem RArg.but {w w' : World} {G : Nat → Prop} {A : Option Addr} {n : Nat} {l : List Tx} (h : RArg w G A n l) (hb : But G w w') : RArg w' G A n l := ⟨h.len, h.rd.but hb h.out, h.out, h.le, h.sz⟩
/-- append of a list that reads as entries, in a region that draws its order -/
theorem step_appRS {P : Program} {ops : Array Oper} {o : Oper} {a : Act} {K : Act → World → Prop} {Q : Exit → Act → World → Prop} {E : Prop} (hgd : o.guard = none) (s x : Operand) (t : TypeId)
    (ho : o.op = .call { callee := .builtin .append, args := #[s, x], argTypes := #[t, t] }) {e : TypeId} {z : Value} {size bytes : Nat}
    (ht : P.underlying t = some (.slice e)) (hinfo : (P.info? e).map (fun i => (i.zero, i.size, i.bytes)) = some (some z, size, bytes)) (hzs : z.cells.size = size) (hsz : 0 < size)
    (v : Value) (n : Nat) (xs : List Value) (w : World) (A : Option Addr) (m c : Nat) (news : List Value) (h1 : ∀ u ∈ news, u.oneCell' = true)
    (hs : a.eval s = v) (hx : a.eval x = .slice A m c) (hown : w.ownsRow 0 e size v n xs) (hr : Rd w A news) (hm : news.length = m * size)
    (hbytes : (n + m) * bytes ≤ 140737488355328) (hmax : n + m ≤ 9223372036854775807)
    (h : ∀ v' w', w'.ownsRow 0 e size v' (n + m) (xs ++ news) → w.grownBy w' v.ownBlock → (∀ g, v'.ownBlock = some g → v.ownBlock = some g ∨ w.heap.size ≤ g) → K (a.put o.dst v') w') :
    if Region.wanted o (yielded ops a.tmps) = true then Oper.wp P o a w K Q else E := by
  have hw : Region.wanted o (yielded ops a.tmps) = true := by simp [Region.wanted, hgd]
  rw [if_pos hw]
  obtain ⟨i, hi, hz, hsi, hby⟩ := info_parts hinfo
  cases A with
  | none =>
    have h0 : m = 0 := by
      rcases Nat.eq_zero_or_pos m with h0 | h0
      · exact h0
      · obtain ⟨b, off, e, _⟩ := hr (by rw [hm]; exact Nat.mul_pos h0 hsz); cases e
    have hn : news = [] := List.eq_nil_of_length_eq_zero (by rw [hm, h0]; simp)
    subst hn
    subst h0
    have hrun := run_append_none_ (P := P) w (ty := o.type) ht hi hown c
    unfold Oper.wp execOp
    simp only [ho, resolve, invoke, builtin, Sem.run_bind, Sem.run_pure, Result.andThen_ok, List.map_toArray, List.map_cons, List.map_nil, hs, hx, hrun]
    exact h v w (by simpa using hown) (World.grownBy.refl _ _) (fun g hg => .inl hg)
  | some ad =>
    obtain ⟨v', w', hr', h2, h3, _, h5⟩ := run_append_own_at (P := P) w 0 t o.type e i z size bytes ht hi hz hsi hby hzs hsz v n xs hown ad m c news hm (fun j u hu => by
      have hj := (List.getElem?_eq_some_iff.1 hu).1
      obtain ⟨b, off, e, _, hc⟩ := hr (by omega)
      cases e
      rw [Addr.add_lit]
      exact hc j u hu) h1 (by simpa [maxLen] using hmax) hbytes (Nat.zero_le _)
    unfold Oper.wp execOp
    simp only [ho, resolve, invoke, builtin, Sem.run_bind, Sem.run_pure, Result.andThen_ok, List.map_toArray, List.map_cons, List.map_nil, hs, hx, hr']
    refine h v' w' h2 h3 (fun g hg => ?_)
    rcases h5 with h5 | h5
    · exact .inl (by rw [← h5]; exact hg)
    · right
      rw [h5] at hg
      injection hg with hg
      omega
theorem own_emptyE (w : World) {cs : Array Value} (hcs : cs = #[]) (t : TypeId) : (w.alloc (.cells cs t)).ownsRow 0 t 3 (.slice (some ⟨w.heap.size, 0, none⟩) 0 0) 0 [] := by
  subst hcs
  exact ⟨rfl, .inr ⟨w.heap.size, 0, #[], rfl, Nat.zero_le _, heap_alloc_new w _, Nat.le_refl _, by simp [maxLen], by simp, by simp⟩⟩
theorem ents_one (l : List Ent) : ∀ u ∈ entsC l, u.oneCell' = true := by
  intro u hu
  obtain ⟨p, _, hp⟩ := List.mem_flatMap.1 hu
  simp [entCells] at hp
  rcases hp with rfl | rfl | rfl <;> rfl
set_option maxHeartbeats 16000000 in
set_option maxRecDepth 100000 in
theorem rwrite_any (q : Nat) (G : Nat → Prop) (t : RSh) (ps : List (Tx × Tx)) (d : List Tx) (Ak : Option Addr) (nk ck : Nat) (Av : Option Addr) (nv cv : Nat) (Ad : Option Addr) (nd cd : Nat) (w : World) (h : RefAt w q G t) (hb : RB t)
    (hk : RArg w G Ak nk (ps.map (·.1))) (hv : RArg w G Av nv (ps.map (·.2))) (hd : RArg w G Ad nd d) :
    Calls Try.prog 24 #[.pointer (some ⟨q, 0, none⟩), .slice Ak nk ck, .slice Av nv cv, .slice Ad nd cd] w fun e w' => e = .returned (.tuple #[.int .i64 ((rwriteF t ps d).2.1 : Int), .int .i64 ((rwriteF t ps d).2.2 : Int)]) ∧ RefPost w q G (rwriteF t ps d).1 w' := by
  have H := Lib.hid h
  have HB := Lib.hid hb
  have KA := Lib.hid hk
  have VA := Lib.hid hv
  have DA := Lib.hid hd
  have nk1 : nk ≤ 100 := by rw [hk.len]; exact hk.le
  have nv1 : nv = nk := by rw [hk.len, hv.len, List.length_map, List.length_map]
  have nd1 : nd ≤ 100 := by rw [hd.len]; exact hd.le
  have RE : Hid (rwriteF t ps d = if d.any (fun x => decide (x ∈ ps.map (·.1))) then (t, 0, 1)
    else if longD d || longP ps then (t, 0, 2)
    else ({ rputs (rdrops t d) ps with ver := t.ver + 1 }, t.ver + 1, 0)) := Lib.hid rfl
  generalize rwriteF t ps d = RR at *
  clear h hb hk hv hd
  go_enter Try.func24, Try.ntmps24
  go_wp2_with fail
  go_loopw [10] (fun s10 wr => ∃ i : Nat, i ≤ nd ∧ s10 = .int .i64 (i : Int) ∧ Hid ((d.take i).any (fun x => decide (x ∈ ps.map (·.1))) = false) ∧ Hid (Below w.heap.size w wr)) (fun i _ => nd - (intOf i).toNat)
  case atStart => exact ⟨0, Nat.zero_le _, rfl, Lib.hid rfl, Lib.hid (Below.refl _ _)⟩
  case round =>
    obtain ⟨i, hin, rfl, AL, BL⟩ := hrel
    by_cases hlt : i < nd
    · have hid : i < d.length := by have := DA.out.len; omega
      have d1 : (i : Int) < (nd : Int) := by omega
      have d2 : (0 : Int) ≤ (i : Int) := by omega
      obtain ⟨bd, od, rfl, hbd, c0⟩ := DA.out.at_ hid
      have TK : Hid ((d.take (i + 1)).any (fun x => decide (x ∈ ps.map (·.1))) = ((d.take i).any (fun x => decide (x ∈ ps.map (·.1))) || decide (d[i] ∈ ps.map (·.1)))) := Lib.hid (by rw [List.take_succ_eq_append_getElem hid, List.any_append]; simp)
      have HIT : Hid (d[i] ∈ ps.map (·.1) → RR = (t, 0, 1)) := Lib.hid (fun hm => by
        rw [RE.out, if_pos]
        rw [List.any_eq_true]
        exact ⟨d[i], List.getElem_mem hid, by simpa using hm⟩)
      have t1 := mkB_tl d[i]
      generalize d[i] = di at *
      go_wp2_with fail
      go_loopw [11] (fun s11 wx => ∃ k : Nat, k ≤ nk ∧ s11 = .int .i64 (k : Int) ∧ Hid (∀ j (hj : j < (ps.map (·.1)).length), j < k → (ps.map (·.1))[j] ≠ di) ∧ Hid (Below w.heap.size w wx)) (fun k _ => nk - (intOf k).toNat)
      case atStart => exact ⟨0, Nat.zero_le _, rfl, Lib.hid (fun j _ h => absurd h (Nat.not_lt_zero _)), BL⟩
      case round =>
        clear BL
        obtain ⟨k, hkn, rfl, AN, BL⟩ := hrel
        by_cases hlt2 : k < nk
        · have hkl : k < (ps.map (·.1)).length := by have := KA.out.len; omega
          have d3 : (k : Int) < (nk : Int) := by omega
          have d4 : (0 : Int) ≤ (k : Int) := by omega
          obtain ⟨bk, ok, rfl, hbk, c1⟩ := KA.out.at_ hkl
          have c0' : wr.cell? ⟨bd, od + i, none⟩ = some (.string (mkB di)) := (World.cell?_of_block (a := ⟨bd, od + i, none⟩) (BL.out.block bd hbd)).trans c0
          have c1' : wr.cell? ⟨bk, ok + k, none⟩ = _ := (World.cell?_of_block (a := ⟨bk, ok + k, none⟩) (BL.out.block bk hbk)).trans c1
          have hb1 : bd < wr.heap.size := Nat.lt_of_lt_of_le hbd BL.out.size
          have hb2 : bk < wr.heap.size := Nat.lt_of_lt_of_le hbk BL.out.size
          have t2 := mkB_tl (ps.map (·.1))[k]
          have IN : Hid ((ps.map (·.1))[k] ∈ ps.map (·.1)) := Lib.hid (List.getElem_mem hkl)
          have ANn : Hid ((ps.map (·.1))[k] ≠ di → ∀ j (hj : j < (ps.map (·.1)).length), j < k + 1 → (ps.map (·.1))[j] ≠ di) := Lib.hid (fun hne j hj hjk => by
            rcases Nat.lt_succ_iff_lt_or_eq.1 hjk with h1 | h1
            · exact AN.out j hj h1
            · subst h1; exact hne)
          clear c0 c1
          generalize (ps.map (·.1))[k] = kk at *
          by_cases he : kk = di
          · have e1 : (kk == di) = true := by rw [he]; simp
            have R1 := Lib.hid (HIT.out (he ▸ IN.out))
            clear HIT ANn IN he
            go_wp2_with fail
            go_quiet (fail)
            go_wp2_with fail
            go_ret2
            exact ⟨by rw [R1.out]; rfl, by rw [R1.out]; exact ⟨G, H.out.below (belowNN BL.out _), fun g hg => .inl hg, But.of_below (belowNN BL.out _)⟩⟩
          · have e1 : (kk == di) = false := by simpa using he
            have A2 := Lib.hid (ANn.out he)
            clear ANn IN he
            go_wp2_with fail
            go_quiet (fail)
            go_wp2_with fail
            exact ⟨⟨k + 1, by omega, by go_num, A2, Lib.hid (belowNN BL.out _)⟩, by simp [intOf]; omega⟩
        · have d3 : ¬ (k : Int) < (nk : Int) := by omega
          have NI : Hid ((d.take (i + 1)).any (fun x => decide (x ∈ ps.map (·.1))) = false) := Lib.hid (by
            rw [TK.out, AL.out, Bool.false_or]
            simp only [decide_eq_false_iff_not]
            intro hm
            obtain ⟨j, hj, e⟩ := List.mem_iff_getElem.1 hm
            exact AN.out j hj (by have := KA.out.len; omega) e)
          clear TK HIT AN
          go_wp2_with fail
          exact ⟨⟨i + 1, by omega, by go_num, NI, BL⟩, by simp [intOf]; omega⟩
    · have d1 : ¬ (i : Int) < (nd : Int) := by omega
      rw [List.take_of_length_le (by have := DA.out.len; omega)] at AL
      have RE1 := RE.out
      rw [AL.out, if_neg (by simp)] at RE1
      have RE2 := Lib.hid RE1
      clear RE RE1 AL
      go_wp2_with fail
      go_loopw [12] (fun s12 wx => ∃ i : Nat, i ≤ nd ∧ s12 = .int .i64 (i : Int) ∧ Hid (longD (d.take i) = false) ∧ Hid (Below w.heap.size w wx)) (fun i _ => nd - (intOf i).toNat)
      case atStart => exact ⟨0, Nat.zero_le _, rfl, Lib.hid rfl, BL⟩
      case round =>
        clear BL
        obtain ⟨i, hin, rfl, AL, BL⟩ := hrel
        by_cases hlt : i < nd
        · have hid : i < d.length := by have := DA.out.len; omega
          have d3 : (i : Int) < (nd : Int) := by omega
          have d4 : (0 : Int) ≤ (i : Int) := by omega
          obtain ⟨bd, od, rfl, hbd, c0⟩ := (DA.out.but (But.of_below BL.out)).at_ hid
          have TK : Hid (longD (d.take (i + 1)) = (longD (d.take i) || decide (200 < d[i].length))) := Lib.hid (by rw [List.take_succ_eq_append_getElem hid]; exact longD_snoc _ _)
          have HIT : Hid (200 < d[i].length → RR = (t, 0, 2)) := Lib.hid (fun hm => by
            rw [RE2.out, if_pos]
            rw [Bool.or_eq_true]
            left
            unfold longD
            rw [List.any_eq_true]
            exact ⟨d[i], List.getElem_mem hid, by simpa using hm⟩)
          have m1 := mkB_len d[i]
          generalize d[i] = di at *
          by_cases hl : 200 < di.length
          · have e1 : (200 : Int) < (di.length : Int) := by omega
            have R1 := Lib.hid (HIT.out hl)
            clear HIT TK
            go_wp2_with fail
            go_ret2
            exact ⟨by rw [R1.out]; rfl, by rw [R1.out]; exact ⟨G, H.out.below BL.out, fun g hg => .inl hg, But.of_below BL.out⟩⟩
          · have e1 : ¬ (200 : Int) < (di.length : Int) := by omega
            have A2 : Hid (longD (d.take (i + 1)) = false) := Lib.hid (by rw [TK.out, AL.out]; simp; omega)
            clear HIT TK
            go_wp2_with fail
            exact ⟨⟨i + 1, by omega, by go_num, A2, BL⟩, by simp [intOf]; omega⟩
        · have d3 : ¬ (i : Int) < (nd : Int) := by omega
          rw [List.take_of_length_le (by have := DA.out.len; omega)] at AL
          have LD := AL
          clear AL
          go_wp2_with fail
          go_loopw [13] (fun s13 wx => ∃ i : Nat, i ≤ nk ∧ s13 = .int .i64 (i : Int) ∧ Hid ((ps.take i).any longQ = false) ∧ Hid (Below w.heap.size w wx)) (fun i _ => nk - (intOf i).toNat)
          case atStart => exact ⟨0, Nat.zero_le _, rfl, Lib.hid rfl, BL⟩
          case round =>
            clear BL
            obtain ⟨i, hin, rfl, AL, BL⟩ := hrel
            by_cases hlt : i < nk
            · have hik : i < (ps.map (·.1)).length := by have := KA.out.len; omega
              have hiv : i < (ps.map (·.2)).length := by rw [List.length_map] at hik ⊢; exact hik
              have hip : i < ps.length := by rw [List.length_map] at hik; exact hik
              have d5 : (i : Int) < (nk : Int) := by omega
              have d6 : (0 : Int) ≤ (i : Int) := by omega
              have d7 : (i : Int) < (nv : Int) := by omega
              obtain ⟨bk, ok, rfl, hbk, c0⟩ := (KA.out.but (But.of_below BL.out)).at_ hik
              obtain ⟨bv, ov, rfl, hbv, c1⟩ := (VA.out.but (But.of_below BL.out)).at_ hiv
              have ek : (ps.map (·.1))[i] = ps[i].1 := List.getElem_map _
              have ev : (ps.map (·.2))[i] = ps[i].2 := List.getElem_map _
              rw [ek] at c0
              rw [ev] at c1
              have TK : Hid ((ps.take (i + 1)).any longQ = ((ps.take i).any longQ || longQ ps[i])) := Lib.hid (by rw [List.take_succ_eq_append_getElem hip, List.any_append]; simp)
              have HIT : Hid (longQ ps[i] = true → RR = (t, 0, 2)) := Lib.hid (fun hm => by
                rw [RE2.out, if_pos]
                rw [Bool.or_eq_true]
                right
                unfold longP
                rw [List.any_eq_true]
                exact ⟨ps[i], List.getElem_mem hip, hm⟩)
              have LQ : Hid (longQ ps[i] = (decide (200 < ps[i].1.length) || decide (20000 < ps[i].2.length))) := Lib.hid rfl
              have m1 := mkB_len ps[i].1
              have m2 := mkB_len ps[i].2
              clear ek ev
              generalize longQ ps[i] = lq at *
              generalize ps[i].1 = pk at *
              generalize ps[i].2 = pv at *
              by_cases h1 : 200 < pk.length
              · have e1 : (200 : Int) < (pk.length : Int) := by omega
                have R1 := Lib.hid (HIT.out (by rw [LQ.out]; simp [h1]))
                clear HIT TK LQ
                go_wp2_with fail
                go_ret2
                exact ⟨by rw [R1.out]; rfl, by rw [R1.out]; exact ⟨G, H.out.below BL.out, fun g hg => .inl hg, But.of_below BL.out⟩⟩
              · have e1 : ¬ (200 : Int) < (pk.length : Int) := by omega
                by_cases h2 : 20000 < pv.length
                · have e2 : (20000 : Int) < (pv.length : Int) := by omega
                  have R1 := Lib.hid (HIT.out (by rw [LQ.out]; simp [h2]))
                  clear HIT TK LQ
                  go_wp2_with fail
                  go_ret2
                  exact ⟨by rw [R1.out]; rfl, by rw [R1.out]; exact ⟨G, H.out.below BL.out, fun g hg => .inl hg, But.of_below BL.out⟩⟩
                · have e2 : ¬ (20000 : Int) < (pv.length : Int) := by omega
                  have A2 : Hid ((ps.take (i + 1)).any longQ = false) := Lib.hid (by rw [TK.out, AL.out, LQ.out]; simp [h1, h2])
                  clear HIT TK LQ
                  go_wp2_with fail
                  exact ⟨⟨i + 1, by omega, by go_num, A2, BL⟩, by simp [intOf]; omega⟩
            · have d5 : ¬ (i : Int) < (nk : Int) := by omega
              rw [List.take_of_length_le (by have := KA.out.len; rw [List.length_map] at this; omega)] at AL
              have RE3 : Hid (RR = ({ rputs (rdrops t d) ps with ver := t.ver + 1 }, t.ver + 1, 0)) := Lib.hid (by
                have hp : longP ps = false := AL.out
                rw [RE2.out, LD.out, hp, if_neg (by simp)])
              clear AL LD RE2
              obtain ⟨vn, vr, vo, vk, vs, hm⟩ := H.out
              have ST : Hid (Rw w G q (rdrops t (d.take 0)) vr wr) := Lib.hid ⟨G, vn, vo, vk, vs, hm.below BL.out, fun g hg => .inl hg, But.of_below BL.out⟩
              clear hm
              go_wp2_with fail
              go_loopw [14] (fun s14 wx => ∃ i : Nat, i ≤ nd ∧ s14 = .int .i64 (i : Int) ∧ Hid (Rw w G q (rdrops t (d.take i)) vr wx)) (fun i _ => nd - (intOf i).toNat)
              case atStart => exact ⟨0, Nat.zero_le _, rfl, ST⟩
              case round =>
                clear ST BL
                obtain ⟨i, hin, rfl, RW⟩ := hrel
                obtain ⟨G', vn', vo', vk', vs', hm, hG, hU⟩ := RW.out
                by_cases hlt : i < nd
                · have hid : i < d.length := by have := DA.out.len; omega
                  have d8 : (i : Int) < (nd : Int) := by omega
                  have d9 : (0 : Int) ≤ (i : Int) := by omega
                  have RT := Lib.hid (rdrops_take t d hid)
                  obtain ⟨bd, od, rfl, hbd, c0⟩ := (DA.out.but hU).at_ hid
                  have bdG : ¬ G bd := DA.out.out bd od rfl
                  have bdq : bd ≠ q := fun e => bdG (by rw [e]; exact (H.out.elim fun _ h => h.elim fun _ h => h.elim fun _ h => h.elim fun _ h => h.elim fun _ h => h.gq))
                  have NL : (rdrops t (d.take i)).newest.length ≤ 100000 := Nat.le_trans (rdrops_len _ _) HB.out.newest
                  generalize rdrops t (d.take i) = ti at *
                  generalize d[i] = di at *
                  obtain ⟨y0, y1, y2, y3, y4, y5⟩ := hm.cells
                  obtain ⟨An, cn, hvn, hRn⟩ := own_sl hm.en
                  rw [hvn] at y1
                  have WN := Lib.hid (without_any An ti.newest.length cn ti.newest di wr.drew rfl (by omega) (rd_drew hRn))
                  have HM := Lib.hid hm
                  have HG := Lib.hid hG
                  have HU := Lib.hid hU
                  have GQ : G q := H.out.elim fun _ h => h.elim fun _ h => h.elim fun _ h => h.elim fun _ h => h.elim fun _ h => h.gq
                  have qz : q < wr.heap.size := hm.lt q hm.gq
                  clear hm hG hU hRn RW
                  go_wp2_with fail
                  have C0 : ∀ w' : World, w'.heap[bd]? = wr.heap[bd]? → w'.cell? ⟨bd, od + i, none⟩ = some (.string (mkB di)) := fun w' h => (World.cell?_of_block (a := ⟨bd, od + i, none⟩) h).trans c0
                  (refine wp_region_noPanic ?_; refine wp_region_held_drew (S := (fun w' : World => w'.heap[bd]? = wr.heap[bd]?)) (by kernel_rfl) ?_ (fun hHeld => ?_); exact rfl)
                  (refine wpAnyH_take (i := 0) (oi := _) (v := ?_) rfl (by kernel_rfl) (by kernel_rfl) (by kernel_rfl) (fun _ _ _ h => h) (Or.inl ⟨?_, ?_⟩) (by assumption) ?_; rotate_left; (focus (first | rfl | (simp [Region.wanted, yielded]; done))); (focus (intro w hSw; (try dsimp only at hSw); go_simp; all_goals (with_reducible rfl))); try simp only [Act.put, List.getElem_toArray, List.getElem_cons_zero, List.getElem_cons_succ, List.setIfInBounds_toArray, List.set_cons_zero, List.set_cons_succ])
                  (refine wpAnyH_take (i := 1) (oi := _) (v := ?_) rfl (by kernel_rfl) (by kernel_rfl) (by kernel_rfl) (fun _ _ _ h => h) (Or.inl ⟨?_, ?_⟩) (by assumption) ?_; rotate_left; (focus (first | rfl | (simp [Region.wanted, yielded]; done))); (focus (intro w hSw; (try dsimp only at hSw); go_simp; all_goals (with_reducible rfl))); try simp only [Act.put, List.getElem_toArray, List.getElem_cons_zero, List.getElem_cons_succ, List.setIfInBounds_toArray, List.set_cons_zero, List.set_cons_succ])
                  (refine wpAnyH_take (i := 2) (oi := _) (v := ?_) rfl (by kernel_rfl) (by kernel_rfl) (by kernel_rfl) (fun _ _ _ h => h) (Or.inl ⟨?_, ?_⟩) (by assumption) ?_; rotate_left; (focus (first | rfl | (simp [Region.wanted, yielded]; done))); (focus (intro w hSw; (try dsimp only at hSw); go_simp; all_goals (with_reducible rfl))); try simp only [Act.put, List.getElem_toArray, List.getElem_cons_zero, List.getElem_cons_succ, List.setIfInBounds_toArray, List.set_cons_zero, List.set_cons_succ])
                  (refine wpAnyH_take (i := 3) (oi := _) (v := ?_) rfl (by kernel_rfl) (by kernel_rfl) (by kernel_rfl) (fun _ _ _ h => h) (Or.inl ⟨?_, ?_⟩) (by assumption) ?_; rotate_left; (focus (first | rfl | (simp [Region.wanted, yielded]; done))); (focus (intro w hSw; (try dsimp only at hSw); go_simp; all_goals (with_reducible rfl))); try simp only [Act.put, List.getElem_toArray, List.getElem_cons_zero, List.getElem_cons_succ, List.setIfInBounds_toArray, List.set_cons_zero, List.set_cons_succ])
                  (refine wpAnyH_take (i := 5) (oi := _) (v := ?_) rfl (by kernel_rfl) (by kernel_rfl) (by kernel_rfl) (fun _ _ _ h => h) (Or.inl ⟨?_, ?_⟩) (by assumption) ?_; rotate_left; (focus (first | rfl | (simp [Region.wanted, yielded]; done))); (focus (intro w hSw; (try dsimp only at hSw); go_simp; all_goals (with_reducible rfl))); try simp only [Act.put, List.getElem_toArray, List.getElem_cons_zero, List.getElem_cons_succ, List.setIfInBounds_toArray, List.set_cons_zero, List.set_cons_succ])
                  (refine wpAnyH_take (i := 6) (oi := _) (v := ?_) rfl (by kernel_rfl) (by kernel_rfl) (by kernel_rfl) (fun _ _ _ h => h) (Or.inl ⟨?_, ?_⟩) (by assumption) ?_; rotate_left; (focus (first | rfl | (simp [Region.wanted, yielded]; done))); (focus (intro w hSw; (try dsimp only at hSw); go_simp; all_goals (with_reducible rfl))); try simp only [Act.put, List.getElem_toArray, List.getElem_cons_zero, List.getElem_cons_succ, List.setIfInBounds_toArray, List.set_cons_zero, List.set_cons_succ])
                  (refine wpAnyH_take (i := 7) (oi := _) (v := ?_) rfl (by kernel_rfl) (by kernel_rfl) (by kernel_rfl) (fun _ _ _ h => h) (Or.inl ⟨?_, ?_⟩) (by assumption) ?_; rotate_left; (focus (first | rfl | (simp [Region.wanted, yielded]; done))); (focus (intro w hSw; (try dsimp only at hSw); go_simp; all_goals (with_reducible rfl))); try simp only [Act.put, List.getElem_toArray, List.getElem_cons_zero, List.getElem_cons_succ, List.setIfInBounds_toArray, List.set_cons_zero, List.set_cons_succ])
                  (refine wpAnyH_take (i := 8) (oi := _) (v := ?_) rfl (by kernel_rfl) (by kernel_rfl) (by kernel_rfl) (fun _ _ _ h => h) (Or.inl ⟨?_, ?_⟩) (by assumption) ?_; rotate_left; (focus (first | rfl | (simp [Region.wanted, yielded]; done))); (focus (intro w hSw; (try dsimp only at hSw); go_simp; all_goals (with_reducible rfl))); try simp only [Act.put, List.getElem_toArray, List.getElem_cons_zero, List.getElem_cons_succ, List.setIfInBounds_toArray, List.set_cons_zero, List.set_cons_succ])
                  (refine wpAnyH_ready (rs := [4]) (by kernel_rfl) (by simp) ?_; refine AllReadyH.cons (o := _) rfl (fun K hK => ?_) AllReadyH.nil; go_simp)
                  (refine hK.out _ _ rfl (fun hHeld2 => ?_); clear hK K hHeld; have hHeld := hHeld2; clear hHeld2; try simp only [Act.put, List.getElem_toArray, List.getElem_cons_zero, List.getElem_cons_succ, List.setIfInBounds_toArray, List.set_cons_zero, List.set_cons_succ])
                  (refine wpAnyH_ready (rs := [9]) (by kernel_rfl) (by simp) ?_; refine AllReadyH.cons (o := _) rfl (fun K hK => ?_) AllReadyH.nil; go_simp)
                  refine WN.out.mono ?_
                  rintro e w6 ⟨v1, rfl, o1, b6'⟩
                  have b6 := belowD b6'
                  have S6 : w6.heap[bd]? = wr.heap[bd]? := b6.block bd hbd
                  have H6 := HM.out.below b6
                  have f1 := free_blk H6.blk 1
                  have y16 : w6.cell? ⟨q, 1, none⟩ = some vn' := H6.cells.2.1
                  have K6 := H6.newestSet (own0 o1)
                  have nX : ∀ g, v1.ownBlock = some g → w.heap.size ≤ g := fun g hg => Nat.le_trans HU.out.size (o1.lt g hg).1
                  have U6 : But G w (w6.setCell ⟨q, 1, none⟩ v1) := (HU.out.thenB (b6.mono HU.out.size)).set (p := ⟨q, 1, none⟩) GQ _
                  have FIN : Hid (Rw w G q (rdrops t (d.take (i + 1))) vr (w6.setCell ⟨q, 1, none⟩ v1)) := Lib.hid (by
                    rw [RT.out]
                    exact ⟨_, _, _, _, _, K6, fun g hg => hg.elim (HG.out g) (fun e => .inr (nX g e)), U6⟩)
                  obtain ⟨A1, c1, rfl, -⟩ := own_sl o1
                  have qz6 : q < w6.heap.size := H6.lt q H6.gq
                  clear b6' H6 K6 nX U6
                  (refine hK.out _ _ S6 (fun hHeld2 => ?_); clear hK K hHeld; have hHeld := hHeld2; clear hHeld2; try simp only [Act.put, List.getElem_toArray, List.getElem_cons_zero, List.getElem_cons_succ, List.setIfInBounds_toArray, List.set_cons_zero, List.set_cons_succ])
                  (refine wpAnyH_take (i := 10) (oi := _) (v := ?_) rfl (by kernel_rfl) (by kernel_rfl) (by kernel_rfl) (fun _ _ _ h => h) (Or.inl ⟨?_, ?_⟩) (by assumption) ?_; rotate_left; (focus (first | rfl | (simp [Region.wanted, yielded]; done))); (focus (intro w hSw; (try dsimp only at hSw); go_simp; all_goals (with_reducible rfl))); try simp only [Act.put, List.getElem_toArray, List.getElem_cons_zero, List.getElem_cons_succ, List.setIfInBounds_toArray, List.set_cons_zero, List.set_cons_succ])
                  (refine wpAnyH_take (i := 11) (oi := _) (v := ?_) rfl (by kernel_rfl) (by kernel_rfl) (by kernel_rfl) (fun _ _ _ h => h) (Or.inl ⟨?_, ?_⟩) (by assumption) ?_; rotate_left; (focus (first | rfl | (simp [Region.wanted, yielded]; done))); (focus (intro w hSw; (try dsimp only at hSw); go_simp; all_goals (with_reducible rfl))); try simp only [Act.put, List.getElem_toArray, List.getElem_cons_zero, List.getElem_cons_succ, List.setIfInBounds_toArray, List.set_cons_zero, List.set_cons_succ])
                  (refine wpAnyH_ready (rs := [12]) (by kernel_rfl) (by simp) ?_; refine AllReadyH.cons (o := _) rfl (fun K hK => ?_) AllReadyH.nil; go_simp)
                  (refine hK.out _ _ ((Below.heap_setCell _ _ _ _ bdq).trans S6) (fun hHeld2 => ?_); clear hK K hHeld; have hHeld := hHeld2; clear hHeld2; try simp only [Act.put, List.getElem_toArray, List.getElem_cons_zero, List.getElem_cons_succ, List.setIfInBounds_toArray, List.set_cons_zero, List.set_cons_succ])
                  (refine wpAnyH_done (by kernel_rfl) ?_ _; refine NoPanic.normal ?_)
                  clear hHeld C0
                  go_wp2_with fail
                  exact ⟨⟨i + 1, by omega, by go_num, FIN⟩, by simp [intOf]; omega⟩
                · have d8 : ¬ (i : Int) < (nd : Int) := by omega
                  rw [List.take_of_length_le (by have := DA.out.len; omega)] at hm
                  have ST : Hid (Rw w G q (rputs (rdrops t d) (ps.take 0)) vr wr) := Lib.hid ⟨G', vn', vo', vk', vs', hm, hG, hU⟩
                  have GQ : G q := H.out.elim fun _ h => h.elim fun _ h => h.elim fun _ h => h.elim fun _ h => h.elim fun _ h => h.gq
                  have TV : Hid ((rdrops t d).ver = t.ver) := Lib.hid (rdrops_kept d t).2.2
                  have T1 : (rdrops t d).newest.length ≤ 100000 := Nat.le_trans (rdrops_len _ _) HB.out.newest
                  have T2 : (rdrops t d).kept.length ≤ 100000 := by rw [(rdrops_kept d t).1]; exact HB.out.kept
                  have T3 : (rdrops t d).count ≤ 100000 := by rw [(rdrops_kept d t).2.1]; exact HB.out.count
                  have TVB := HB.out.ver
                  clear hm hG hU RW
                  generalize rdrops t d = td at *
                  go_wp2_with fail
                  go_loopw [15] (fun s15 wx => ∃ i : Nat, i ≤ nk ∧ s15 = .int .i64 (i : Int) ∧ Hid (Rw w G q (rputs td (ps.take i)) vr wx)) (fun i _ => nk - (intOf i).toNat)
                  case atStart => exact ⟨0, Nat.zero_le _, rfl, ST⟩
                  case round =>
                    clear ST
                    obtain ⟨i, hin, rfl, RW⟩ := hrel
                    obtain ⟨G', vn', vo', vk', vs', hm, hG, hU⟩ := RW.out
                    have hip0 : ps.length = nk := by have := KA.out.len; rw [List.length_map] at this; exact this.symm
                    by_cases hlt : i < nk
                    · have hip : i < ps.length := by omega
                      have hik : i < (ps.map (·.1)).length := by rw [List.length_map]; exact hip
                      have hiv : i < (ps.map (·.2)).length := by rw [List.length_map]; exact hip
                      have g1 : (i : Int) < (nk : Int) := by omega
                      have g2 : (0 : Int) ≤ (i : Int) := by omega
                      have g3 : (i : Int) < (nv : Int) := by omega
                      have RT := Lib.hid (rputs_take td ps hip)
                      obtain ⟨n1, n2, n3⟩ := rputs_len (ps.take i) td
                      rw [List.length_take, Nat.min_eq_left (by omega)] at n1 n2 n3
                      have m1 : (rputs td (ps.take i)).newest.length ≤ 100200 := by omega
                      have m2 : (rputs td (ps.take i)).kept.length ≤ 100200 := by omega
                      have m3 : (rputs td (ps.take i)).count ≤ 100200 := by omega
                      clear n1 n2 n3
                      obtain ⟨bk, ok, rfl, hbk, c0⟩ := (KA.out.but hU).at_ hik
                      obtain ⟨bv, ov, rfl, hbv, c1⟩ := (VA.out.but hU).at_ hiv
                      have ek : (ps.map (·.1))[i] = ps[i].1 := List.getElem_map _
                      have ev : (ps.map (·.2))[i] = ps[i].2 := List.getElem_map _
                      rw [ek] at c0
                      rw [ev] at c1
                      have bkq : bk ≠ q := fun e => KA.out.out bk ok rfl (by rw [e]; exact GQ)
                      have bvq : bv ≠ q := fun e => VA.out.out bv ov rfl (by rw [e]; exact GQ)
                      clear ek ev hip0
                      generalize rputs td (ps.take i) = ti at *
                      generalize ps[i].1 = pk at *
                      generalize ps[i].2 = pv at *
                      obtain ⟨y0, y1, y2, y3, y4, y5⟩ := hm.cells
                      have f5 := free_blk hm.blk 5
                      have w5' : IntKind.i64.wrap ((ti.count : Int) + 1) = (ti.count : Int) + 1 := IntWalk.i64_in _ (by omega)
                      have ec : ((ti.count + 1 : Nat) : Int) = (ti.count : Int) + 1 := by omega
                      have M1 := hm.countSet (ti.count + 1)
                      rw [ec] at M1
                      have U1 : But G w (wr.setCell ⟨q, 5, none⟩ (.int .i64 ((ti.count : Int) + 1))) := hU.set (p := ⟨q, 5, none⟩) GQ _
                      have cc0 : (wr.setCell ⟨q, 5, none⟩ (.int .i64 ((ti.count : Int) + 1))).cell? ⟨bk, ok + i, none⟩ = some (.string (mkB pk)) := (World.cell?_of_block (a := ⟨bk, ok + i, none⟩) (Below.heap_setCell _ _ _ _ bkq)).trans c0
                      have cc1 : (wr.setCell ⟨q, 5, none⟩ (.int .i64 ((ti.count : Int) + 1))).cell? ⟨bv, ov + i, none⟩ = some (.string (mkB pv)) := (World.cell?_of_block (a := ⟨bv, ov + i, none⟩) (Below.heap_setCell _ _ _ _ bvq)).trans c1
                      have cc5 : (wr.setCell ⟨q, 5, none⟩ (.int .i64 ((ti.count : Int) + 1))).cell? ⟨q, 5, none⟩ = some (.int .i64 ((ti.count : Int) + 1)) := M1.cells.2.2.2.2.2.trans (by rw [← ec])
                      obtain ⟨W, hW⟩ : ∃ W, W = wr.setCell ⟨q, 5, none⟩ (.int .i64 ((ti.count : Int) + 1)) := ⟨_, rfl⟩
                      rw [← hW] at M1 U1 cc0 cc1 cc5
                      have M1H := Lib.hid M1
                      have U1H := Lib.hid U1
                      have HG := Lib.hid hG
                      have HW := Lib.hid hW
                      clear hm hG hU RW M1 U1 y0 y1 y2 y3 y4 hW c0 c1 ec
                      go_wp2_with fail
                      rw [← HW.out]
                      have zk : bk < W.heap.size := by rw [HW.out]; simpa [World.setCell] using hbk
                      have zv : bv < W.heap.size := by rw [HW.out]; simpa [World.setCell] using hbv
                      have zq : q < W.heap.size := M1H.out.lt q M1H.out.gq
                      clear y5 f5 hbk hbv
                      have C0 : ∀ w' : World, Below W.heap.size W w' → w'.cell? ⟨bk, ok + i, none⟩ = some (.string (mkB pk)) := fun w' h => (World.cell?_of_block (a := ⟨bk, ok + i, none⟩) (h.block bk zk)).trans cc0
                      have C1 : ∀ w' : World, Below W.heap.size W w' → w'.cell? ⟨bv, ov + i, none⟩ = some (.string (mkB pv)) := fun w' h => (World.cell?_of_block (a := ⟨bv, ov + i, none⟩) (h.block bv zv)).trans cc1
                      have C5 : ∀ w' : World, Below W.heap.size W w' → w'.cell? ⟨q, 5, none⟩ = some (.int .i64 ((ti.count : Int) + 1)) := fun w' h => (World.cell?_of_block (a := ⟨q, 5, none⟩) (h.block q zq)).trans cc5
                      have S0 : Below W.heap.size W W.drew := belowDD (Below.refl _ _)
                      (refine wp_region_noPanic ?_; refine wp_region_held_drew (S := (fun w' : World => Below W.heap.size W w')) (by kernel_rfl) ?_ (fun hHeld => ?_); exact S0)
                      (refine wpAnyH_take (i := 0) (oi := _) (v := ?_) rfl (by kernel_rfl) (by kernel_rfl) (by kernel_rfl) (fun _ _ _ h => h) (Or.inl ⟨?_, ?_⟩) (by assumption) ?_; rotate_left; (focus (first | rfl | (simp [Region.wanted, yielded]; done))); (focus (intro w hSw; (try dsimp only at hSw); go_simp; all_goals (with_reducible rfl))); try simp only [Act.put, List.getElem_toArray, List.getElem_cons_zero, List.getElem_cons_succ, List.setIfInBounds_toArray, List.set_cons_zero, List.set_cons_succ])
                      (refine wpAnyH_take (i := 1) (oi := _) (v := ?_) rfl (by kernel_rfl) (by kernel_rfl) (by kernel_rfl) (fun _ _ _ h => h) (Or.inl ⟨?_, ?_⟩) (by assumption) ?_; rotate_left; (focus (first | rfl | (simp [Region.wanted, yielded]; done))); (focus (intro w hSw; (try dsimp only at hSw); go_simp; all_goals (with_reducible rfl))); try simp only [Act.put, List.getElem_toArray, List.getElem_cons_zero, List.getElem_cons_succ, List.setIfInBounds_toArray, List.set_cons_zero, List.set_cons_succ])
                      (refine wpAnyH_take (i := 2) (oi := _) (v := ?_) rfl (by kernel_rfl) (by kernel_rfl) (by kernel_rfl) (fun _ _ _ h => h) (Or.inl ⟨?_, ?_⟩) (by assumption) ?_; rotate_left; (focus (first | rfl | (simp [Region.wanted, yielded]; done))); (focus (intro w hSw; (try dsimp only at hSw); go_simp; all_goals (with_reducible rfl))); try simp only [Act.put, List.getElem_toArray, List.getElem_cons_zero, List.getElem_cons_succ, List.setIfInBounds_toArray, List.set_cons_zero, List.set_cons_succ])
                      (refine wpAnyH_take (i := 3) (oi := _) (v := ?_) rfl (by kernel_rfl) (by kernel_rfl) (by kernel_rfl) (fun _ _ _ h => h) (Or.inl ⟨?_, ?_⟩) (by assumption) ?_; rotate_left; (focus (first | rfl | (simp [Region.wanted, yielded]; done))); (focus (intro w hSw; (try dsimp only at hSw); go_simp; all_goals (with_reducible rfl))); try simp only [Act.put, List.getElem_toArray, List.getElem_cons_zero, List.getElem_cons_succ, List.setIfInBounds_toArray, List.set_cons_zero, List.set_cons_succ])
                      (refine wpAnyH_take (i := 4) (oi := _) (v := ?_) rfl (by kernel_rfl) (by kernel_rfl) (by kernel_rfl) (fun _ _ _ h => h) (Or.inl ⟨?_, ?_⟩) (by assumption) ?_; rotate_left; (focus (first | rfl | (simp [Region.wanted, yielded]; done))); (focus (intro w hSw; (try dsimp only at hSw); go_simp; all_goals (with_reducible rfl))); try simp only [Act.put, List.getElem_toArray, List.getElem_cons_zero, List.getElem_cons_succ, List.setIfInBounds_toArray, List.set_cons_zero, List.set_cons_succ])
                      (refine wpAnyH_take (i := 5) (oi := _) (v := ?_) rfl (by kernel_rfl) (by kernel_rfl) (by kernel_rfl) (fun _ _ _ h => h) (Or.inl ⟨?_, ?_⟩) (by assumption) ?_; rotate_left; (focus (first | rfl | (simp [Region.wanted, yielded]; done))); (focus (intro w hSw; (try dsimp only at hSw); go_simp; all_goals (with_reducible rfl))); try simp only [Act.put, List.getElem_toArray, List.getElem_cons_zero, List.getElem_cons_succ, List.setIfInBounds_toArray, List.set_cons_zero, List.set_cons_succ])
                      (refine wpAnyH_take (i := 6) (oi := _) (v := ?_) rfl (by kernel_rfl) (by kernel_rfl) (by kernel_rfl) (fun _ _ _ h => h) (Or.inl ⟨?_, ?_⟩) (by assumption) ?_; rotate_left; (focus (first | rfl | (simp [Region.wanted, yielded]; done))); (focus (intro w hSw; (try dsimp only at hSw); go_simp; all_goals (with_reducible rfl))); try simp only [Act.put, List.getElem_toArray, List.getElem_cons_zero, List.getElem_cons_succ, List.setIfInBounds_toArray, List.set_cons_zero, List.set_cons_succ])
                      (refine wpAnyH_take (i := 7) (oi := _) (v := ?_) rfl (by kernel_rfl) (by kernel_rfl) (by kernel_rfl) (fun _ _ _ h => h) (Or.inl ⟨?_, ?_⟩) (by assumption) ?_; rotate_left; (focus (first | rfl | (simp [Region.wanted, yielded]; done))); (focus (intro w hSw; (try dsimp only at hSw); go_simp; all_goals (with_reducible rfl))); try simp only [Act.put, List.getElem_toArray, List.getElem_cons_zero, List.getElem_cons_succ, List.setIfInBounds_toArray, List.set_cons_zero, List.set_cons_succ])
                      (refine wpAnyH_take (i := 8) (oi := _) (v := ?_) rfl (by kernel_rfl) (by kernel_rfl) (by kernel_rfl) (fun _ _ _ h => h) (Or.inl ⟨?_, ?_⟩) (by assumption) ?_; rotate_left; (focus (first | rfl | (simp [Region.wanted, yielded]; done))); (focus (intro w hSw; (try dsimp only at hSw); go_simp; all_goals (with_reducible rfl))); try simp only [Act.put, List.getElem_toArray, List.getElem_cons_zero, List.getElem_cons_succ, List.setIfInBounds_toArray, List.set_cons_zero, List.set_cons_succ])
                      (refine wpAnyH_take (i := 9) (oi := _) (v := ?_) rfl (by kernel_rfl) (by kernel_rfl) (by kernel_rfl) (fun _ _ _ h => h) (Or.inl ⟨?_, ?_⟩) (by assumption) ?_; rotate_left; (focus (first | rfl | (simp [Region.wanted, yielded]; done))); (focus (intro w hSw; (try dsimp only at hSw); go_simp; all_goals (with_reducible rfl))); try simp only [Act.put, List.getElem_toArray, List.getElem_cons_zero, List.getElem_cons_succ, List.setIfInBounds_toArray, List.set_cons_zero, List.set_cons_succ])
                      (refine wpAnyH_take (i := 10) (oi := _) (v := ?_) rfl (by kernel_rfl) (by kernel_rfl) (by kernel_rfl) (fun _ _ _ h => h) (Or.inl ⟨?_, ?_⟩) (by assumption) ?_; rotate_left; (focus (first | rfl | (simp [Region.wanted, yielded]; done))); (focus (intro w hSw; (try dsimp only at hSw); go_simp; all_goals (with_reducible rfl))); try simp only [Act.put, List.getElem_toArray, List.getElem_cons_zero, List.getElem_cons_succ, List.setIfInBounds_toArray, List.set_cons_zero, List.set_cons_succ])
                      (refine wpAnyH_take (i := 11) (oi := _) (v := ?_) rfl (by kernel_rfl) (by kernel_rfl) (by kernel_rfl) (fun _ _ _ h => h) (Or.inl ⟨?_, ?_⟩) (by assumption) ?_; rotate_left; (focus (first | rfl | (simp [Region.wanted, yielded]; done))); (focus (intro w hSw; (try dsimp only at hSw); go_simp; all_goals (with_reducible rfl))); try simp only [Act.put, List.getElem_toArray, List.getElem_cons_zero, List.getElem_cons_succ, List.setIfInBounds_toArray, List.set_cons_zero, List.set_cons_succ])
                      (refine wpAnyH_take (i := 12) (oi := _) (v := ?_) rfl (by kernel_rfl) (by kernel_rfl) (by kernel_rfl) (fun _ _ _ h => h) (Or.inl ⟨?_, ?_⟩) (by assumption) ?_; rotate_left; (focus (first | rfl | (simp [Region.wanted, yielded]; done))); (focus (intro w hSw; (try dsimp only at hSw); go_simp; all_goals (with_reducible rfl))); try simp only [Act.put, List.getElem_toArray, List.getElem_cons_zero, List.getElem_cons_succ, List.setIfInBounds_toArray, List.set_cons_zero, List.set_cons_succ])
                      (refine wpAnyH_ready (rs := [13]) (by kernel_rfl) (by simp) ?_; refine AllReadyH.cons (o := _) rfl (fun K hK => ?_) AllReadyH.nil; go_simp)
                      (refine hK.out _ _ (S0.alloc (Nat.le_refl _) _) (fun hHeld2 => ?_); clear hK K hHeld; have hHeld := hHeld2; clear hHeld2; try simp only [Act.put, List.getElem_toArray, List.getElem_cons_zero, List.getElem_cons_succ, List.setIfInBounds_toArray, List.set_cons_zero, List.set_cons_succ])
                      (refine wpAnyH_ready (rs := [14]) (by kernel_rfl) (by simp) ?_; refine AllReadyH.cons (o := _) rfl (fun K hK => ?_) AllReadyH.nil; go_simp)
                      (refine hK.out _ _ (belowDD ((Below.refl W.heap.size W).alloc (Nat.le_refl _) _)) (fun hHeld2 => ?_); clear hK K hHeld; have hHeld := hHeld2; clear hHeld2; try simp only [Act.put, List.getElem_toArray, List.getElem_cons_zero, List.getElem_cons_succ, List.setIfInBounds_toArray, List.set_cons_zero, List.set_cons_succ])
                      (refine wpAnyH_done (by kernel_rfl) ?_ _; refine NoPanic.normal ?_)
                      clear hHeld C0 C1 C5
                      have bX : Below W.heap.size W (W.alloc (.cells #[.string (mkB pk), .string (mkB pv), .int .i64 ((ti.count : Int) + 1)] 68)).drew := belowDD ((Below.refl _ _).alloc (Nat.le_refl _) _)
                      have xb : (W.alloc (.cells #[.string (mkB pk), .string (mkB pv), .int .i64 ((ti.count : Int) + 1)] 68)).drew.heap[W.heap.size]? = some (.cells #[.string (mkB pk), .string (mkB pv), .int .i64 ((ti.count : Int) + 1)] 68 (0, 0)) := heap_alloc_new W _
                      have xz : (W.alloc (.cells #[.string (mkB pk), .string (mkB pv), .int .i64 ((ti.count : Int) + 1)] 68)).drew.heap.size = W.heap.size + 1 := by show (W.alloc _).heap.size = _; simp
                      obtain ⟨X, hX⟩ : ∃ X, X = (W.alloc (.cells #[.string (mkB pk), .string (mkB pv), .int .i64 ((ti.count : Int) + 1)] 68)).drew := ⟨_, rfl⟩
                      rw [← hX] at bX xb xz
                      have M2 := M1H.out.below bX
                      have U2 := U1H.out.thenB (bX.mono U1H.out.size)
                      obtain ⟨bx, hbx⟩ : ∃ bx, bx = W.heap.size := ⟨_, rfl⟩
                      rw [← hbx] at xb xz
                      have xk : X.cell? ⟨bk, ok + i, none⟩ = some (.string (mkB pk)) := (World.cell?_of_block (a := ⟨bk, ok + i, none⟩) (bX.block bk zk)).trans cc0
                      have xbq : bx ≠ q := by omega
                      have zkx : bk < X.heap.size := by omega
                      have zbx : bx < X.heap.size := by omega
                      have zqx : q < X.heap.size := by omega
                      obtain ⟨An, cn, hvn, hRn⟩ := own_sl M2.en
                      have xq1 : X.cell? ⟨q, 1, none⟩ = some (.slice An ti.newest.length cn) := by rw [M2.cells.2.1, hvn]
                      have HX := Lib.hid hX
                      have HBX := Lib.hid hbx
                      have M2H := Lib.hid M2
                      have U2H := Lib.hid U2
                      have RNX := Lib.hid hRn
                      have WN := Lib.hid (fun (u : World) (hu : Rd u An (entsC ti.newest)) => without_any An ti.newest.length cn ti.newest pk u rfl (by omega) hu)
                      clear M2 U2 hX hbx hRn bX S0 M1H U1H cc0 cc1 cc5 zk zv zq xz
                      go_upto_region 30 with fail
                      rw [← HBX.out, ← HX.out]
                      go_cut [131] (fun s131 wx => Hid (∃ (G9 : Nat → Prop) (vn9 : Value), RefMem wx q G9 { ti with count := ti.count + 1, newest := withoutL ti.newest pk ++ [⟨pk, pv, ti.count + 1⟩] } vn9 vr vo' vk' vs' ∧ (∀ g, G9 g → G g ∨ w.heap.size ≤ g) ∧ But G w wx ∧ wx.heap[bx]? = some (.cells #[.string (mkB pk), .string (mkB pv), .int .i64 ((ti.count : Int) + 1)] 68 (0, 0))))
                      case rest =>
                        obtain ⟨Y, hY⟩ : ∃ Y, Y = wc := ⟨_, rfl⟩
                        rw [← hY] at hcut ⊢
                        clear hY wc
                        obtain ⟨G9, vn9, hm9, hG9, hU9, xb9⟩ := hcut.out
                        obtain ⟨Ak9, ck9, hvk9, hRk9⟩ := own_sl hm9.ek
                        have yk : Y.cell? ⟨q, 4, none⟩ = some (.slice Ak9 ti.kept.length ck9) := by rw [hm9.cells.2.2.2.2.1, hvk9]
                        have zqy : q < Y.heap.size := hm9.lt q hm9.gq
                        have zby : bx < Y.heap.size := lt_of_block xb9
                        have X0 : Y.cell? ⟨bx, 0, none⟩ = some (.string (mkB pk)) := cell_of_row Y bx 0 _ _ _ xb9
                        have X1 : Y.cell? ⟨bx, 1, none⟩ = some (.string (mkB pv)) := cell_of_row Y bx 1 _ _ _ xb9
                        have X2 : Y.cell? ⟨bx, 2, none⟩ = some (.int .i64 ((ti.count : Int) + 1)) := cell_of_row Y bx 2 _ _ _ xb9
                        have M9 := Lib.hid hm9
                        have G9H := Lib.hid hG9
                        have U9 := Lib.hid hU9
                        have RK9 := Lib.hid hRk9
                        clear hcut hm9 hG9 hU9 hRk9 xk xb
                        go_wp2_with fail
                        have F0 : ∀ w' : World, SameBut q Y w' → w'.cell? ⟨bx, 0, none⟩ = some (.string (mkB pk)) := fun w' h => (World.cell?_of_block (a := ⟨bx, 0, none⟩) (h bx zby xbq)).trans X0
                        have F1 : ∀ w' : World, SameBut q Y w' → w'.cell? ⟨bx, 1, none⟩ = some (.string (mkB pv)) := fun w' h => (World.cell?_of_block (a := ⟨bx, 1, none⟩) (h bx zby xbq)).trans X1
                        have F2 : ∀ w' : World, SameBut q Y w' → w'.cell? ⟨bx, 2, none⟩ = some (.int .i64 ((ti.count : Int) + 1)) := fun w' h => (World.cell?_of_block (a := ⟨bx, 2, none⟩) (h bx zby xbq)).trans X2
                        have SB0 : SameBut q Y Y.drew := fun _ _ _ => rfl
                        (refine wp_region_noPanic ?_; refine wp_region_held_drew (S := (fun w' : World => SameBut q Y w')) (by kernel_rfl) ?_ (fun hHeld => ?_); exact SB0)
                        (refine wpAnyH_take (i := 0) (oi := _) (v := ?_) rfl (by kernel_rfl) (by kernel_rfl) (by kernel_rfl) (fun _ _ _ h => h) (Or.inl ⟨?_, ?_⟩) (by assumption) ?_; rotate_left; (focus (first | rfl | (simp [Region.wanted, yielded]; done))); (focus (intro w hSw; (try dsimp only at hSw); go_simp; all_goals (with_reducible rfl))); try simp only [Act.put, List.getElem_toArray, List.getElem_cons_zero, List.getElem_cons_succ, List.setIfInBounds_toArray, List.set_cons_zero, List.set_cons_succ])
                        (refine wpAnyH_take (i := 2) (oi := _) (v := ?_) rfl (by kernel_rfl) (by kernel_rfl) (by kernel_rfl) (fun _ _ _ h => h) (Or.inl ⟨?_, ?_⟩) (by assumption) ?_; rotate_left; (focus (first | rfl | (simp [Region.wanted, yielded]; done))); (focus (intro w hSw; (try dsimp only at hSw); go_simp; all_goals (with_reducible rfl))); try simp only [Act.put, List.getElem_toArray, List.getElem_cons_zero, List.getElem_cons_succ, List.setIfInBounds_toArray, List.set_cons_zero, List.set_cons_succ])
                        (refine wpAnyH_take (i := 3) (oi := _) (v := ?_) rfl (by kernel_rfl) (by kernel_rfl) (by kernel_rfl) (fun _ _ _ h => h) (Or.inl ⟨?_, ?_⟩) (by assumption) ?_; rotate_left; (focus (first | rfl | (simp [Region.wanted, yielded]; done))); (focus (intro w hSw; (try dsimp only at hSw); go_simp; all_goals (with_reducible rfl))); try simp only [Act.put, List.getElem_toArray, List.getElem_cons_zero, List.getElem_cons_succ, List.setIfInBounds_toArray, List.set_cons_zero, List.set_cons_succ])
                        (refine wpAnyH_take (i := 4) (oi := _) (v := ?_) rfl (by kernel_rfl) (by kernel_rfl) (by kernel_rfl) (fun _ _ _ h => h) (Or.inl ⟨?_, ?_⟩) (by assumption) ?_; rotate_left; (focus (first | rfl | (simp [Region.wanted, yielded]; done))); (focus (intro w hSw; (try dsimp only at hSw); go_simp; all_goals (with_reducible rfl))); try simp only [Act.put, List.getElem_toArray, List.getElem_cons_zero, List.getElem_cons_succ, List.setIfInBounds_toArray, List.set_cons_zero, List.set_cons_succ])
                        (refine wpAnyH_take (i := 7) (oi := _) (v := ?_) rfl (by kernel_rfl) (by kernel_rfl) (by kernel_rfl) (fun _ _ _ h => h) (Or.inl ⟨?_, ?_⟩) (by assumption) ?_; rotate_left; (focus (first | rfl | (simp [Region.wanted, yielded]; done))); (focus (intro w hSw; (try dsimp only at hSw); go_simp; all_goals (with_reducible rfl))); try simp only [Act.put, List.getElem_toArray, List.getElem_cons_zero, List.getElem_cons_succ, List.setIfInBounds_toArray, List.set_cons_zero, List.set_cons_succ])
                        have bW : Below Y.heap.size Y Y := Below.refl _ _
                        (refine wpAnyH_ready (rs := [1, 5, 8]) (by kernel_rfl) (by simp) ?_; refine AllReadyH.cons (o := _) rfl (fun K hK => ?_) (AllReadyH.cons (o := _) rfl (fun K hK => ?_) (AllReadyH.cons (o := _) rfl (fun K hK => ?_) AllReadyH.nil)))
                        focus
                          go_simp
                          have E1 := own_emptyE (Y) rfl 68
                          have bW2 := bW.trans ((Below.refl (Y).heap.size (Y)).alloc (Nat.le_refl _) (.cells #[] 68) |>.mono bW.size)
                          have sz1 : (Y.alloc (.cells #[] 68)).heap.size = Y.heap.size + 1 := by simp
                          have b1 : Y.heap.size ≤ Y.heap.size := by omega
                          have bW := bW2
                          clear bW2
                          have SB : SameBut q Y (Y.alloc (.cells #[] 68)) := fun k hk _ => bW.block k hk
                          (refine hK.out _ _ SB (fun hHeld2 => ?_); clear hK K hHeld; have hHeld := hHeld2; clear hHeld2; try simp only [Act.put, List.getElem_toArray, List.getElem_cons_zero, List.getElem_cons_succ, List.setIfInBounds_toArray, List.set_cons_zero, List.set_cons_succ])
                          (refine wpAnyH_ready (rs := [5, 8]) (by kernel_rfl) (by simp) ?_; refine AllReadyH.cons (o := _) rfl (fun K hK => ?_) (AllReadyH.cons (o := _) rfl (fun K hK => ?_) AllReadyH.nil))
                          focus
                            have yk5 : (Y.alloc (.cells #[] 68)).cell? ⟨q, 4, none⟩ = some (.slice Ak9 ti.kept.length ck9) := (World.cell?_of_block (a := ⟨q, 4, none⟩) (bW.block q zqy)).trans yk
                            go_simp
                            have SB : SameBut q Y (Y.alloc (.cells #[] 68)) := fun k hk _ => bW.block k hk
                            (refine hK.out _ _ SB (fun hHeld2 => ?_); clear hK K hHeld; have hHeld := hHeld2; clear hHeld2; try simp only [Act.put, List.getElem_toArray, List.getElem_cons_zero, List.getElem_cons_succ, List.setIfInBounds_toArray, List.set_cons_zero, List.set_cons_succ])
                            (refine wpAnyH_ready (rs := [6, 8]) (by kernel_rfl) (by simp) ?_; refine AllReadyH.cons (o := _) rfl (fun K hK => ?_) (AllReadyH.cons (o := _) rfl (fun K hK => ?_) AllReadyH.nil))
                            focus
                              refine step_appRS rfl (.tmp 133) (.tmp 137) 54 rfl Try.underlying54 info_ent rfl (by decide) _ 0 [] _ Ak9 ti.kept.length ck9 (entsC ti.kept) (ents_one _) rfl rfl E1 (rd_drew (RK9.out.below bW)) (entsC_len _) (by omega) (by omega) ?_
                              intro v6 w6 o6 g6 l6
                              have o6n : ∀ g, v6.ownBlock = some g → Y.heap.size ≤ g := fun g hg => (l6 g hg).elim (fun e => by have e : some (Y.heap.size) = some g := e; injection e with e; omega) (fun e => Nat.le_trans bW.size e)
                              have bW6 : Below Y.heap.size Y w6 := bW.trans ⟨g6.os, g6.tape, g6.output, g6.size, fun k hk => g6.block k (Nat.lt_of_lt_of_le hk bW.size) (fun e => by have e : some k = some (Y.heap.size) := e; injection e with e; omega)⟩
                              have bW := bW6
                              clear bW6 g6 l6
                              rw [Nat.zero_add, List.nil_append] at o6
                              have SB : SameBut q Y w6 := fun k hk _ => bW.block k hk
                              (refine hK.out _ _ SB (fun hHeld2 => ?_); clear hK K hHeld; have hHeld := hHeld2; clear hHeld2; try simp only [Act.put, List.getElem_toArray, List.getElem_cons_zero, List.getElem_cons_succ, List.setIfInBounds_toArray, List.set_cons_zero, List.set_cons_succ])
                              (refine wpAnyH_ready (rs := [8]) (by kernel_rfl) (by simp) ?_; refine AllReadyH.cons (o := _) rfl (fun K hK => ?_) AllReadyH.nil; go_simp)
                              have hba : (w6.alloc (.cells #[.string (mkB pk), .string (mkB pv), .int .i64 ((ti.count : Int) + 1)] 68)).heap[(w6).heap.size]? = some (.cells #[.string (mkB pk), .string (mkB pv), .int .i64 ((ti.count : Int) + 1)] 68 (0, 0)) := heap_alloc_new (w6) _
                              have bW2 := bW.trans ((Below.refl (w6).heap.size (w6)).alloc (Nat.le_refl _) (.cells #[.string (mkB pk), .string (mkB pv), .int .i64 ((ti.count : Int) + 1)] 68) |>.mono bW.size)
                              have o6 := World.ownsRow.alloc o6 (.cells #[.string (mkB pk), .string (mkB pv), .int .i64 ((ti.count : Int) + 1)] 68)
                              have bW := bW2
                              clear bW2
                              have SB : SameBut q Y (w6.alloc (.cells #[.string (mkB pk), .string (mkB pv), .int .i64 ((ti.count : Int) + 1)] 68)) := fun k hk _ => bW.block k hk
                              (refine hK.out _ _ SB (fun hHeld2 => ?_); clear hK K hHeld; have hHeld := hHeld2; clear hHeld2; try simp only [Act.put, List.getElem_toArray, List.getElem_cons_zero, List.getElem_cons_succ, List.setIfInBounds_toArray, List.set_cons_zero, List.set_cons_succ])
                              (refine wpAnyH_ready (rs := [9]) (by kernel_rfl) (by simp) ?_; refine AllReadyH.cons (o := _) rfl (fun K hK => ?_) AllReadyH.nil)
                              refine step_appG rfl (.tmp 138) (.tmp 140) 54 rfl Try.underlying54 info_ent rfl (by decide) _ ti.kept.length (entsC ti.kept) _ _ rfl ?_ rfl rfl hba o6 (by omega) (by omega) ?_
                              · intro y hy
                                simp at hy
                                rcases hy with rfl | rfl | rfl <;> rfl
                              intro g' c' u1 hown hg1 hloc
                              have b7 : Below Y.heap.size Y u1 := bW.trans ⟨hg1.os, hg1.tape, hg1.output, hg1.size, fun k hk => hg1.block k (Nat.lt_of_lt_of_le hk bW.size) (fun e => by have := o6n k e.symm; omega)⟩
                              have e7 : (ti.kept ++ [(⟨pk, pv, ti.count + 1⟩ : Ent)]).length = ti.kept.length + 1 := by simp
                              have eE : entsC [(⟨pk, pv, ti.count + 1⟩ : Ent)] = [.string (mkB pk), .string (mkB pv), .int .i64 ((ti.count : Int) + 1)] := by simp [entsC, entCells]
                              have own7 : u1.ownsRow 0 68 3 (.slice (some ⟨g', 0, none⟩) (ti.kept.length + 1) c') (ti.kept ++ [(⟨pk, pv, ti.count + 1⟩ : Ent)]).length (entsC (ti.kept ++ [(⟨pk, pv, ti.count + 1⟩ : Ent)])) := by
                                rw [e7, entsC_app, eE]; exact hown
                              have M7 := M9.out.below b7
                              have f1 := free_blk M7.blk 4
                              have y17 : u1.cell? ⟨q, 4, none⟩ = some vk' := M7.cells.2.2.2.2.1
                              have M8 := M7.keptSet own7
                              have nX : w.heap.size ≤ g' := by
                                have z5 := U9.out.size
                                rcases hloc with e | e
                                · exact Nat.le_trans z5 (o6n g' e)
                                · exact Nat.le_trans z5 (Nat.le_trans bW.size e)
                              have U8 : But G w (u1.setCell ⟨q, 4, none⟩ (.slice (some ⟨g', 0, none⟩) (ti.kept.length + 1) c')) := (U9.out.thenB (b7.mono U9.out.size)).set (p := ⟨q, 4, none⟩) GQ _
                              have FIN : Hid (Rw w G q (rputs td (ps.take (i + 1))) vr (u1.setCell ⟨q, 4, none⟩ (.slice (some ⟨g', 0, none⟩) (ti.kept.length + 1) c'))) := Lib.hid (by
                                rw [RT.out]
                                exact ⟨_, _, _, _, _, M8, fun g hg => hg.elim (G9H.out g) (fun e => by
                                  have e : some g' = some g := e
                                  injection e with e; rw [← e]; exact .inr nX), U8⟩)
                              have S7 : SameBut q Y u1 := fun k hk _ => b7.block k hk
                              have S8 : SameBut q Y (u1.setCell ⟨q, 4, none⟩ (.slice (some ⟨g', 0, none⟩) (ti.kept.length + 1) c')) := fun k hk hne => (Below.heap_setCell _ _ _ _ hne).trans (b7.block k hk)
                              clear M7 M8 own7 U8 hown hg1 hloc e7
                              (refine hK.out _ _ S7 (fun hHeld2 => ?_); clear hK K hHeld; have hHeld := hHeld2; clear hHeld2; try simp only [Act.put, List.getElem_toArray, List.getElem_cons_zero, List.getElem_cons_succ, List.setIfInBounds_toArray, List.set_cons_zero, List.set_cons_succ])
                              (refine wpAnyH_take (i := 10) (oi := _) (v := ?_) rfl (by kernel_rfl) (by kernel_rfl) (by kernel_rfl) (fun _ _ _ h => h) (Or.inl ⟨?_, ?_⟩) (by assumption) ?_; rotate_left; (focus (first | rfl | (simp [Region.wanted, yielded]; done))); (focus (intro w hSw; (try dsimp only at hSw); go_simp; all_goals (with_reducible rfl))); try simp only [Act.put, List.getElem_toArray, List.getElem_cons_zero, List.getElem_cons_succ, List.setIfInBounds_toArray, List.set_cons_zero, List.set_cons_succ])
                              (refine wpAnyH_take (i := 11) (oi := _) (v := ?_) rfl (by kernel_rfl) (by kernel_rfl) (by kernel_rfl) (fun _ _ _ h => h) (Or.inl ⟨?_, ?_⟩) (by assumption) ?_; rotate_left; (focus (first | rfl | (simp [Region.wanted, yielded]; done))); (focus (intro w hSw; (try dsimp only at hSw); go_simp; all_goals (with_reducible rfl))); try simp only [Act.put, List.getElem_toArray, List.getElem_cons_zero, List.getElem_cons_succ, List.setIfInBounds_toArray, List.set_cons_zero, List.set_cons_succ])
                              (refine wpAnyH_ready (rs := [12]) (by kernel_rfl) (by simp) ?_; refine AllReadyH.cons (o := _) rfl (fun K hK => ?_) AllReadyH.nil; go_simp)
                              (refine hK.out _ _ S8 (fun hHeld2 => ?_); clear hK K hHeld; have hHeld := hHeld2; clear hHeld2; try simp only [Act.put, List.getElem_toArray, List.getElem_cons_zero, List.getElem_cons_succ, List.setIfInBounds_toArray, List.set_cons_zero, List.set_cons_succ])
                              (refine wpAnyH_done (by kernel_rfl) ?_ _; refine NoPanic.normal ?_)
                              clear hHeld F0 F1 F2
                              go_wp2_with fail
                              exact ⟨⟨i + 1, by omega, by go_num, FIN⟩, by simp [intOf]; omega⟩
                            focus
                              go_simp
                              have hba : ((Y.alloc (.cells #[] 68)).alloc (.cells #[.string (mkB pk), .string (mkB pv), .int .i64 ((ti.count : Int) + 1)] 68)).heap[(Y.alloc (.cells #[] 68)).heap.size]? = some (.cells #[.string (mkB pk), .string (mkB pv), .int .i64 ((ti.count : Int) + 1)] 68 (0, 0)) := heap_alloc_new (Y.alloc (.cells #[] 68)) _
                              rw [sz1] at hba
                              have bW2 := bW.trans ((Below.refl (Y.alloc (.cells #[] 68)).heap.size (Y.alloc (.cells #[] 68))).alloc (Nat.le_refl _) (.cells #[.string (mkB pk), .string (mkB pv), .int .i64 ((ti.count : Int) + 1)] 68) |>.mono bW.size)
                              have sz2 : ((Y.alloc (.cells #[] 68)).alloc (.cells #[.string (mkB pk), .string (mkB pv), .int .i64 ((ti.count : Int) + 1)] 68)).heap.size = Y.heap.size + 2 := by simp
                              have E1 := World.ownsRow.alloc E1 (.cells #[.string (mkB pk), .string (mkB pv), .int .i64 ((ti.count : Int) + 1)] 68)
                              have bW := bW2
                              clear bW2
                              have SB : SameBut q Y ((Y.alloc (.cells #[] 68)).alloc (.cells #[.string (mkB pk), .string (mkB pv), .int .i64 ((ti.count : Int) + 1)] 68)) := fun k hk _ => bW.block k hk
                              (refine hK.out _ _ SB (fun hHeld2 => ?_); clear hK K hHeld; have hHeld := hHeld2; clear hHeld2; try simp only [Act.put, List.getElem_toArray, List.getElem_cons_zero, List.getElem_cons_succ, List.setIfInBounds_toArray, List.set_cons_zero, List.set_cons_succ])
                              (refine wpAnyH_ready (rs := [6]) (by kernel_rfl) (by simp) ?_; refine AllReadyH.cons (o := _) rfl (fun K hK => ?_) AllReadyH.nil)
                              refine step_appRS rfl (.tmp 133) (.tmp 137) 54 rfl Try.underlying54 info_ent rfl (by decide) _ 0 [] _ Ak9 ti.kept.length ck9 (entsC ti.kept) (ents_one _) rfl rfl E1 (rd_drew (RK9.out.below bW)) (entsC_len _) (by omega) (by omega) ?_
                              intro v6 w6 o6 g6 l6
                              have o6n : ∀ g, v6.ownBlock = some g → Y.heap.size ≤ g := fun g hg => (l6 g hg).elim (fun e => by have e : some (Y.heap.size) = some g := e; injection e with e; omega) (fun e => Nat.le_trans bW.size e)
                              have hba := (g6.block _ (lt_of_block hba) (fun e => by have e : some (Y.heap.size + 1) = some (Y.heap.size) := e; injection e with e; omega)).trans hba
                              have bW6 : Below Y.heap.size Y w6 := bW.trans ⟨g6.os, g6.tape, g6.output, g6.size, fun k hk => g6.block k (Nat.lt_of_lt_of_le hk bW.size) (fun e => by have e : some k = some (Y.heap.size) := e; injection e with e; omega)⟩
                              have bW := bW6
                              clear bW6 g6 l6
                              rw [Nat.zero_add, List.nil_append] at o6
                              have SB : SameBut q Y w6 := fun k hk _ => bW.block k hk
                              (refine hK.out _ _ SB (fun hHeld2 => ?_); clear hK K hHeld; have hHeld := hHeld2; clear hHeld2; try simp only [Act.put, List.getElem_toArray, List.getElem_cons_zero, List.getElem_cons_succ, List.setIfInBounds_toArray, List.set_cons_zero, List.set_cons_succ])
                              (refine wpAnyH_ready (rs := [9]) (by kernel_rfl) (by simp) ?_; refine AllReadyH.cons (o := _) rfl (fun K hK => ?_) AllReadyH.nil)
                              refine step_appG rfl (.tmp 138) (.tmp 140) 54 rfl Try.underlying54 info_ent rfl (by decide) _ ti.kept.length (entsC ti.kept) _ _ rfl ?_ rfl rfl hba o6 (by omega) (by omega) ?_
                              · intro y hy
                                simp at hy
                                rcases hy with rfl | rfl | rfl <;> rfl
                              intro g' c' u1 hown hg1 hloc
                              have b7 : Below Y.heap.size Y u1 := bW.trans ⟨hg1.os, hg1.tape, hg1.output, hg1.size, fun k hk => hg1.block k (Nat.lt_of_lt_of_le hk bW.size) (fun e => by have := o6n k e.symm; omega)⟩
                              have e7 : (ti.kept ++ [(⟨pk, pv, ti.count + 1⟩ : Ent)]).length = ti.kept.length + 1 := by simp
                              have eE : entsC [(⟨pk, pv, ti.count + 1⟩ : Ent)] = [.string (mkB pk), .string (mkB pv), .int .i64 ((ti.count : Int) + 1)] := by simp [entsC, entCells]
                              have own7 : u1.ownsRow 0 68 3 (.slice (some ⟨g', 0, none⟩) (ti.kept.length + 1) c') (ti.kept ++ [(⟨pk, pv, ti.count + 1⟩ : Ent)]).length (entsC (ti.kept ++ [(⟨pk, pv, ti.count + 1⟩ : Ent)])) := by
                                rw [e7, entsC_app, eE]; exact hown
                              have M7 := M9.out.below b7
                              have f1 := free_blk M7.blk 4
                              have y17 : u1.cell? ⟨q, 4, none⟩ = some vk' := M7.cells.2.2.2.2.1
                              have M8 := M7.keptSet own7
                              have nX : w.heap.size ≤ g' := by
                                have z5 := U9.out.size
                                rcases hloc with e | e
                                · exact Nat.le_trans z5 (o6n g' e)
                                · exact Nat.le_trans z5 (Nat.le_trans bW.size e)
                              have U8 : But G w (u1.setCell ⟨q, 4, none⟩ (.slice (some ⟨g', 0, none⟩) (ti.kept.length + 1) c')) := (U9.out.thenB (b7.mono U9.out.size)).set (p := ⟨q, 4, none⟩) GQ _
                              have FIN : Hid (Rw w G q (rputs td (ps.take (i + 1))) vr (u1.setCell ⟨q, 4, none⟩ (.slice (some ⟨g', 0, none⟩) (ti.kept.length + 1) c'))) := Lib.hid (by
                                rw [RT.out]
                                exact ⟨_, _, _, _, _, M8, fun g hg => hg.elim (G9H.out g) (fun e => by
                                  have e : some g' = some g := e
                                  injection e with e; rw [← e]; exact .inr nX), U8⟩)
                              have S7 : SameBut q Y u1 := fun k hk _ => b7.block k hk
                              have S8 : SameBut q Y (u1.setCell ⟨q, 4, none⟩ (.slice (some ⟨g', 0, none⟩) (ti.kept.length + 1) c')) := fun k hk hne => (Below.heap_setCell _ _ _ _ hne).trans (b7.block k hk)
                              clear M7 M8 own7 U8 hown hg1 hloc e7
                              (refine hK.out _ _ S7 (fun hHeld2 => ?_); clear hK K hHeld; have hHeld := hHeld2; clear hHeld2; try simp only [Act.put, List.getElem_toArray, List.getElem_cons_zero, List.getElem_cons_succ, List.setIfInBounds_toArray, List.set_cons_zero, List.set_cons_succ])
                              (refine wpAnyH_take (i := 10) (oi := _) (v := ?_) rfl (by kernel_rfl) (by kernel_rfl) (by kernel_rfl) (fun _ _ _ h => h) (Or.inl ⟨?_, ?_⟩) (by assumption) ?_; rotate_left; (focus (first | rfl | (simp [Region.wanted, yielded]; done))); (focus (intro w hSw; (try dsimp only at hSw); go_simp; all_goals (with_reducible rfl))); try simp only [Act.put, List.getElem_toArray, List.getElem_cons_zero, List.getElem_cons_succ, List.setIfInBounds_toArray, List.set_cons_zero, List.set_cons_succ])
                              (refine wpAnyH_take (i := 11) (oi := _) (v := ?_) rfl (by kernel_rfl) (by kernel_rfl) (by kernel_rfl) (fun _ _ _ h => h) (Or.inl ⟨?_, ?_⟩) (by assumption) ?_; rotate_left; (focus (first | rfl | (simp [Region.wanted, yielded]; done))); (focus (intro w hSw; (try dsimp only at hSw); go_simp; all_goals (with_reducible rfl))); try simp only [Act.put, List.getElem_toArray, List.getElem_cons_zero, List.getElem_cons_succ, List.setIfInBounds_toArray, List.set_cons_zero, List.set_cons_succ])
                              (refine wpAnyH_ready (rs := [12]) (by kernel_rfl) (by simp) ?_; refine AllReadyH.cons (o := _) rfl (fun K hK => ?_) AllReadyH.nil; go_simp)
                              (refine hK.out _ _ S8 (fun hHeld2 => ?_); clear hK K hHeld; have hHeld := hHeld2; clear hHeld2; try simp only [Act.put, List.getElem_toArray, List.getElem_cons_zero, List.getElem_cons_succ, List.setIfInBounds_toArray, List.set_cons_zero, List.set_cons_succ])
                              (refine wpAnyH_done (by kernel_rfl) ?_ _; refine NoPanic.normal ?_)
                              clear hHeld F0 F1 F2
                              go_wp2_with fail
                              exact ⟨⟨i + 1, by omega, by go_num, FIN⟩, by simp [intOf]; omega⟩
                          focus
                            go_simp
                            have hba : ((Y.alloc (.cells #[] 68)).alloc (.cells #[.string (mkB pk), .string (mkB pv), .int .i64 ((ti.count : Int) + 1)] 68)).heap[(Y.alloc (.cells #[] 68)).heap.size]? = some (.cells #[.string (mkB pk), .string (mkB pv), .int .i64 ((ti.count : Int) + 1)] 68 (0, 0)) := heap_alloc_new (Y.alloc (.cells #[] 68)) _
                            rw [sz1] at hba
                            have bW2 := bW.trans ((Below.refl (Y.alloc (.cells #[] 68)).heap.size (Y.alloc (.cells #[] 68))).alloc (Nat.le_refl _) (.cells #[.string (mkB pk), .string (mkB pv), .int .i64 ((ti.count : Int) + 1)] 68) |>.mono bW.size)
                            have sz2 : ((Y.alloc (.cells #[] 68)).alloc (.cells #[.string (mkB pk), .string (mkB pv), .int .i64 ((ti.count : Int) + 1)] 68)).heap.size = Y.heap.size + 2 := by simp
                            have E1 := World.ownsRow.alloc E1 (.cells #[.string (mkB pk), .string (mkB pv), .int .i64 ((ti.count : Int) + 1)] 68)
                            have bW := bW2
                            clear bW2
                            have SB : SameBut q Y ((Y.alloc (.cells #[] 68)).alloc (.cells #[.string (mkB pk), .string (mkB pv), .int .i64 ((ti.count : Int) + 1)] 68)) := fun k hk _ => bW.block k hk
                            (refine hK.out _ _ SB (fun hHeld2 => ?_); clear hK K hHeld; have hHeld := hHeld2; clear hHeld2; try simp only [Act.put, List.getElem_toArray, List.getElem_cons_zero, List.getElem_cons_succ, List.setIfInBounds_toArray, List.set_cons_zero, List.set_cons_succ])
                            have yk5 : ((Y.alloc (.cells #[] 68)).alloc (.cells #[.string (mkB pk), .string (mkB pv), .int .i64 ((ti.count : Int) + 1)] 68)).cell? ⟨q, 4, none⟩ = some (.slice Ak9 ti.kept.length ck9) := (World.cell?_of_block (a := ⟨q, 4, none⟩) (bW.block q zqy)).trans yk
                            (refine wpAnyH_ready (rs := [5]) (by kernel_rfl) (by simp) ?_; refine AllReadyH.cons (o := _) rfl (fun K hK => ?_) AllReadyH.nil; go_simp)
                            have SB : SameBut q Y ((Y.alloc (.cells #[] 68)).alloc (.cells #[.string (mkB pk), .string (mkB pv), .int .i64 ((ti.count : Int) + 1)] 68)) := fun k hk _ => bW.block k hk
                            (refine hK.out _ _ SB (fun hHeld2 => ?_); clear hK K hHeld; have hHeld := hHeld2; clear hHeld2; try simp only [Act.put, List.getElem_toArray, List.getElem_cons_zero, List.getElem_cons_succ, List.setIfInBounds_toArray, List.set_cons_zero, List.set_cons_succ])
                            (refine wpAnyH_ready (rs := [6]) (by kernel_rfl) (by simp) ?_; refine AllReadyH.cons (o := _) rfl (fun K hK => ?_) AllReadyH.nil)
                            refine step_appRS rfl (.tmp 133) (.tmp 137) 54 rfl Try.underlying54 info_ent rfl (by decide) _ 0 [] _ Ak9 ti.kept.length ck9 (entsC ti.kept) (ents_one _) rfl rfl E1 (rd_drew (RK9.out.below bW)) (entsC_len _) (by omega) (by omega) ?_
                            intro v6 w6 o6 g6 l6
                            have o6n : ∀ g, v6.ownBlock = some g → Y.heap.size ≤ g := fun g hg => (l6 g hg).elim (fun e => by have e : some (Y.heap.size) = some g := e; injection e with e; omega) (fun e => Nat.le_trans bW.size e)
                            have hba := (g6.block _ (lt_of_block hba) (fun e => by have e : some (Y.heap.size + 1) = some (Y.heap.size) := e; injection e with e; omega)).trans hba
                            have bW6 : Below Y.heap.size Y w6 := bW.trans ⟨g6.os, g6.tape, g6.output, g6.size, fun k hk => g6.block k (Nat.lt_of_lt_of_le hk bW.size) (fun e => by have e : some k = some (Y.heap.size) := e; injection e with e; omega)⟩
                            have bW := bW6
                            clear bW6 g6 l6
                            rw [Nat.zero_add, List.nil_append] at o6
                            have SB : SameBut q Y w6 := fun k hk _ => bW.block k hk
                            (refine hK.out _ _ SB (fun hHeld2 => ?_); clear hK K hHeld; have hHeld := hHeld2; clear hHeld2; try simp only [Act.put, List.getElem_toArray, List.getElem_cons_zero, List.getElem_cons_succ, List.setIfInBounds_toArray, List.set_cons_zero, List.set_cons_succ])
                            (refine wpAnyH_ready (rs := [9]) (by kernel_rfl) (by simp) ?_; refine AllReadyH.cons (o := _) rfl (fun K hK => ?_) AllReadyH.nil)
                            refine step_appG rfl (.tmp 138) (.tmp 140) 54 rfl Try.underlying54 info_ent rfl (by decide) _ ti.kept.length (entsC ti.kept) _ _ rfl ?_ rfl rfl hba o6 (by omega) (by omega) ?_
                            · intro y hy
                              simp at hy
                              rcases hy with rfl | rfl | rfl <;> rfl
                            intro g' c' u1 hown hg1 hloc
                            have b7 : Below Y.heap.size Y u1 := bW.trans ⟨hg1.os, hg1.tape, hg1.output, hg1.size, fun k hk => hg1.block k (Nat.lt_of_lt_of_le hk bW.size) (fun e => by have := o6n k e.symm; omega)⟩
                            have e7 : (ti.kept ++ [(⟨pk, pv, ti.count + 1⟩ : Ent)]).length = ti.kept.length + 1 := by simp
                            have eE : entsC [(⟨pk, pv, ti.count + 1⟩ : Ent)] = [.string (mkB pk), .string (mkB pv), .int .i64 ((ti.count : Int) + 1)] := by simp [entsC, entCells]
                            have own7 : u1.ownsRow 0 68 3 (.slice (some ⟨g', 0, none⟩) (ti.kept.length + 1) c') (ti.kept ++ [(⟨pk, pv, ti.count + 1⟩ : Ent)]).length (entsC (ti.kept ++ [(⟨pk, pv, ti.count + 1⟩ : Ent)])) := by
                              rw [e7, entsC_app, eE]; exact hown
                            have M7 := M9.out.below b7
                            have f1 := free_blk M7.blk 4
                            have y17 : u1.cell? ⟨q, 4, none⟩ = some vk' := M7.cells.2.2.2.2.1
                            have M8 := M7.keptSet own7
                            have nX : w.heap.size ≤ g' := by
                              have z5 := U9.out.size
                              rcases hloc with e | e
                              · exact Nat.le_trans z5 (o6n g' e)
                              · exact Nat.le_trans z5 (Nat.le_trans bW.size e)
                            have U8 : But G w (u1.setCell ⟨q, 4, none⟩ (.slice (some ⟨g', 0, none⟩) (ti.kept.length + 1) c')) := (U9.out.thenB (b7.mono U9.out.size)).set (p := ⟨q, 4, none⟩) GQ _
                            have FIN : Hid (Rw w G q (rputs td (ps.take (i + 1))) vr (u1.setCell ⟨q, 4, none⟩ (.slice (some ⟨g', 0, none⟩) (ti.kept.length + 1) c'))) := Lib.hid (by
                              rw [RT.out]
                              exact ⟨_, _, _, _, _, M8, fun g hg => hg.elim (G9H.out g) (fun e => by
                                have e : some g' = some g := e
                                injection e with e; rw [← e]; exact .inr nX), U8⟩)
                            have S7 : SameBut q Y u1 := fun k hk _ => b7.block k hk
                            have S8 : SameBut q Y (u1.setCell ⟨q, 4, none⟩ (.slice (some ⟨g', 0, none⟩) (ti.kept.length + 1) c')) := fun k hk hne => (Below.heap_setCell _ _ _ _ hne).trans (b7.block k hk)
                            clear M7 M8 own7 U8 hown hg1 hloc e7
                            (refine hK.out _ _ S7 (fun hHeld2 => ?_); clear hK K hHeld; have hHeld := hHeld2; clear hHeld2; try simp only [Act.put, List.getElem_toArray, List.getElem_cons_zero, List.getElem_cons_succ, List.setIfInBounds_toArray, List.set_cons_zero, List.set_cons_succ])
                            (refine wpAnyH_take (i := 10) (oi := _) (v := ?_) rfl (by kernel_rfl) (by kernel_rfl) (by kernel_rfl) (fun _ _ _ h => h) (Or.inl ⟨?_, ?_⟩) (by assumption) ?_; rotate_left; (focus (first | rfl | (simp [Region.wanted, yielded]; done))); (focus (intro w hSw; (try dsimp only at hSw); go_simp; all_goals (with_reducible rfl))); try simp only [Act.put, List.getElem_toArray, List.getElem_cons_zero, List.getElem_cons_succ, List.setIfInBounds_toArray, List.set_cons_zero, List.set_cons_succ])
                            (refine wpAnyH_take (i := 11) (oi := _) (v := ?_) rfl (by kernel_rfl) (by kernel_rfl) (by kernel_rfl) (fun _ _ _ h => h) (Or.inl ⟨?_, ?_⟩) (by assumption) ?_; rotate_left; (focus (first | rfl | (simp [Region.wanted, yielded]; done))); (focus (intro w hSw; (try dsimp only at hSw); go_simp; all_goals (with_reducible rfl))); try simp only [Act.put, List.getElem_toArray, List.getElem_cons_zero, List.getElem_cons_succ, List.setIfInBounds_toArray, List.set_cons_zero, List.set_cons_succ])
                            (refine wpAnyH_ready (rs := [12]) (by kernel_rfl) (by simp) ?_; refine AllReadyH.cons (o := _) rfl (fun K hK => ?_) AllReadyH.nil; go_simp)
                            (refine hK.out _ _ S8 (fun hHeld2 => ?_); clear hK K hHeld; have hHeld := hHeld2; clear hHeld2; try simp only [Act.put, List.getElem_toArray, List.getElem_cons_zero, List.getElem_cons_succ, List.setIfInBounds_toArray, List.set_cons_zero, List.set_cons_succ])
                            (refine wpAnyH_done (by kernel_rfl) ?_ _; refine NoPanic.normal ?_)
                            clear hHeld F0 F1 F2
                            go_wp2_with fail
                            exact ⟨⟨i + 1, by omega, by go_num, FIN⟩, by simp [intOf]; omega⟩
                        focus
                          have yk5 : (Y).cell? ⟨q, 4, none⟩ = some (.slice Ak9 ti.kept.length ck9) := (World.cell?_of_block (a := ⟨q, 4, none⟩) (bW.block q zqy)).trans yk
                          go_simp
                          have SB : SameBut q Y (Y) := fun k hk _ => bW.block k hk
                          (refine hK.out _ _ SB (fun hHeld2 => ?_); clear hK K hHeld; have hHeld := hHeld2; clear hHeld2; try simp only [Act.put, List.getElem_toArray, List.getElem_cons_zero, List.getElem_cons_succ, List.setIfInBounds_toArray, List.set_cons_zero, List.set_cons_succ])
                          (refine wpAnyH_ready (rs := [1, 8]) (by kernel_rfl) (by simp) ?_; refine AllReadyH.cons (o := _) rfl (fun K hK => ?_) (AllReadyH.cons (o := _) rfl (fun K hK => ?_) AllReadyH.nil))
                          focus
                            go_simp
                            have E1 := own_emptyE (Y) rfl 68
                            have bW2 := bW.trans ((Below.refl (Y).heap.size (Y)).alloc (Nat.le_refl _) (.cells #[] 68) |>.mono bW.size)
                            have sz1 : (Y.alloc (.cells #[] 68)).heap.size = Y.heap.size + 1 := by simp
                            have b1 : Y.heap.size ≤ Y.heap.size := by omega
                            have bW := bW2
                            clear bW2
                            have SB : SameBut q Y (Y.alloc (.cells #[] 68)) := fun k hk _ => bW.block k hk
                            (refine hK.out _ _ SB (fun hHeld2 => ?_); clear hK K hHeld; have hHeld := hHeld2; clear hHeld2; try simp only [Act.put, List.getElem_toArray, List.getElem_cons_zero, List.getElem_cons_succ, List.setIfInBounds_toArray, List.set_cons_zero, List.set_cons_succ])
                            (refine wpAnyH_ready (rs := [6, 8]) (by kernel_rfl) (by simp) ?_; refine AllReadyH.cons (o := _) rfl (fun K hK => ?_) (AllReadyH.cons (o := _) rfl (fun K hK => ?_) AllReadyH.nil))
                            focus
                              refine step_appRS rfl (.tmp 133) (.tmp 137) 54 rfl Try.underlying54 info_ent rfl (by decide) _ 0 [] _ Ak9 ti.kept.length ck9 (entsC ti.kept) (ents_one _) rfl rfl E1 (rd_drew (RK9.out.below bW)) (entsC_len _) (by omega) (by omega) ?_
                              intro v6 w6 o6 g6 l6
                              have o6n : ∀ g, v6.ownBlock = some g → Y.heap.size ≤ g := fun g hg => (l6 g hg).elim (fun e => by have e : some (Y.heap.size) = some g := e; injection e with e; omega) (fun e => Nat.le_trans bW.size e)
                              have bW6 : Below Y.heap.size Y w6 := bW.trans ⟨g6.os, g6.tape, g6.output, g6.size, fun k hk => g6.block k (Nat.lt_of_lt_of_le hk bW.size) (fun e => by have e : some k = some (Y.heap.size) := e; injection e with e; omega)⟩
                              have bW := bW6
                              clear bW6 g6 l6
                              rw [Nat.zero_add, List.nil_append] at o6
                              have SB : SameBut q Y w6 := fun k hk _ => bW.block k hk
                              (refine hK.out _ _ SB (fun hHeld2 => ?_); clear hK K hHeld; have hHeld := hHeld2; clear hHeld2; try simp only [Act.put, List.getElem_toArray, List.getElem_cons_zero, List.getElem_cons_succ, List.setIfInBounds_toArray, List.set_cons_zero, List.set_cons_succ])
                              (refine wpAnyH_ready (rs := [8]) (by kernel_rfl) (by simp) ?_; refine AllReadyH.cons (o := _) rfl (fun K hK => ?_) AllReadyH.nil; go_simp)
                              have hba : (w6.alloc (.cells #[.string (mkB pk), .string (mkB pv), .int .i64 ((ti.count : Int) + 1)] 68)).heap[(w6).heap.size]? = some (.cells #[.string (mkB pk), .string (mkB pv), .int .i64 ((ti.count : Int) + 1)] 68 (0, 0)) := heap_alloc_new (w6) _
                              have bW2 := bW.trans ((Below.refl (w6).heap.size (w6)).alloc (Nat.le_refl _) (.cells #[.string (mkB pk), .string (mkB pv), .int .i64 ((ti.count : Int) + 1)] 68) |>.mono bW.size)
                              have o6 := World.ownsRow.alloc o6 (.cells #[.string (mkB pk), .string (mkB pv), .int .i64 ((ti.count : Int) + 1)] 68)
                              have bW := bW2
                              clear bW2
                              have SB : SameBut q Y (w6.alloc (.cells #[.string (mkB pk), .string (mkB pv), .int .i64 ((ti.count : Int) + 1)] 68)) := fun k hk _ => bW.block k hk
                              (refine hK.out _ _ SB (fun hHeld2 => ?_); clear hK K hHeld; have hHeld := hHeld2; clear hHeld2; try simp only [Act.put, List.getElem_toArray, List.getElem_cons_zero, List.getElem_cons_succ, List.setIfInBounds_toArray, List.set_cons_zero, List.set_cons_succ])
                              (refine wpAnyH_ready (rs := [9]) (by kernel_rfl) (by simp) ?_; refine AllReadyH.cons (o := _) rfl (fun K hK => ?_) AllReadyH.nil)
                              refine step_appG rfl (.tmp 138) (.tmp 140) 54 rfl Try.underlying54 info_ent rfl (by decide) _ ti.kept.length (entsC ti.kept) _ _ rfl ?_ rfl rfl hba o6 (by omega) (by omega) ?_
                              · intro y hy
                                simp at hy
                                rcases hy with rfl | rfl | rfl <;> rfl
                              intro g' c' u1 hown hg1 hloc
                              have b7 : Below Y.heap.size Y u1 := bW.trans ⟨hg1.os, hg1.tape, hg1.output, hg1.size, fun k hk => hg1.block k (Nat.lt_of_lt_of_le hk bW.size) (fun e => by have := o6n k e.symm; omega)⟩
                              have e7 : (ti.kept ++ [(⟨pk, pv, ti.count + 1⟩ : Ent)]).length = ti.kept.length + 1 := by simp
                              have eE : entsC [(⟨pk, pv, ti.count + 1⟩ : Ent)] = [.string (mkB pk), .string (mkB pv), .int .i64 ((ti.count : Int) + 1)] := by simp [entsC, entCells]
                              have own7 : u1.ownsRow 0 68 3 (.slice (some ⟨g', 0, none⟩) (ti.kept.length + 1) c') (ti.kept ++ [(⟨pk, pv, ti.count + 1⟩ : Ent)]).length (entsC (ti.kept ++ [(⟨pk, pv, ti.count + 1⟩ : Ent)])) := by
                                rw [e7, entsC_app, eE]; exact hown
                              have M7 := M9.out.below b7
                              have f1 := free_blk M7.blk 4
                              have y17 : u1.cell? ⟨q, 4, none⟩ = some vk' := M7.cells.2.2.2.2.1
                              have M8 := M7.keptSet own7
                              have nX : w.heap.size ≤ g' := by
                                have z5 := U9.out.size
                                rcases hloc with e | e
                                · exact Nat.le_trans z5 (o6n g' e)
                                · exact Nat.le_trans z5 (Nat.le_trans bW.size e)
                              have U8 : But G w (u1.setCell ⟨q, 4, none⟩ (.slice (some ⟨g', 0, none⟩) (ti.kept.length + 1) c')) := (U9.out.thenB (b7.mono U9.out.size)).set (p := ⟨q, 4, none⟩) GQ _
                              have FIN : Hid (Rw w G q (rputs td (ps.take (i + 1))) vr (u1.setCell ⟨q, 4, none⟩ (.slice (some ⟨g', 0, none⟩) (ti.kept.length + 1) c'))) := Lib.hid (by
                                rw [RT.out]
                                exact ⟨_, _, _, _, _, M8, fun g hg => hg.elim (G9H.out g) (fun e => by
                                  have e : some g' = some g := e
                                  injection e with e; rw [← e]; exact .inr nX), U8⟩)
                              have S7 : SameBut q Y u1 := fun k hk _ => b7.block k hk
                              have S8 : SameBut q Y (u1.setCell ⟨q, 4, none⟩ (.slice (some ⟨g', 0, none⟩) (ti.kept.length + 1) c')) := fun k hk hne => (Below.heap_setCell _ _ _ _ hne).trans (b7.block k hk)
                              clear M7 M8 own7 U8 hown hg1 hloc e7
                              (refine hK.out _ _ S7 (fun hHeld2 => ?_); clear hK K hHeld; have hHeld := hHeld2; clear hHeld2; try simp only [Act.put, List.getElem_toArray, List.getElem_cons_zero, List.getElem_cons_succ, List.setIfInBounds_toArray, List.set_cons_zero, List.set_cons_succ])
                              (refine wpAnyH_take (i := 10) (oi := _) (v := ?_) rfl (by kernel_rfl) (by kernel_rfl) (by kernel_rfl) (fun _ _ _ h => h) (Or.inl ⟨?_, ?_⟩) (by assumption) ?_; rotate_left; (focus (first | rfl | (simp [Region.wanted, yielded]; done))); (focus (intro w hSw; (try dsimp only at hSw); go_simp; all_goals (with_reducible rfl))); try simp only [Act.put, List.getElem_toArray, List.getElem_cons_zero, List.getElem_cons_succ, List.setIfInBounds_toArray, List.set_cons_zero, List.set_cons_succ])
                              (refine wpAnyH_take (i := 11) (oi := _) (v := ?_) rfl (by kernel_rfl) (by kernel_rfl) (by kernel_rfl) (fun _ _ _ h => h) (Or.inl ⟨?_, ?_⟩) (by assumption) ?_; rotate_left; (focus (first | rfl | (simp [Region.wanted, yielded]; done))); (focus (intro w hSw; (try dsimp only at hSw); go_simp; all_goals (with_reducible rfl))); try simp only [Act.put, List.getElem_toArray, List.getElem_cons_zero, List.getElem_cons_succ, List.setIfInBounds_toArray, List.set_cons_zero, List.set_cons_succ])
                              (refine wpAnyH_ready (rs := [12]) (by kernel_rfl) (by simp) ?_; refine AllReadyH.cons (o := _) rfl (fun K hK => ?_) AllReadyH.nil; go_simp)
                              (refine hK.out _ _ S8 (fun hHeld2 => ?_); clear hK K hHeld; have hHeld := hHeld2; clear hHeld2; try simp only [Act.put, List.getElem_toArray, List.getElem_cons_zero, List.getElem_cons_succ, List.setIfInBounds_toArray, List.set_cons_zero, List.set_cons_succ])
                              (refine wpAnyH_done (by kernel_rfl) ?_ _; refine NoPanic.normal ?_)
                              clear hHeld F0 F1 F2
                              go_wp2_with fail
                              exact ⟨⟨i + 1, by omega, by go_num, FIN⟩, by simp [intOf]; omega⟩
                            focus
                              go_simp
                              have hba : ((Y.alloc (.cells #[] 68)).alloc (.cells #[.string (mkB pk), .string (mkB pv), .int .i64 ((ti.count : Int) + 1)] 68)).heap[(Y.alloc (.cells #[] 68)).heap.size]? = some (.cells #[.string (mkB pk), .string (mkB pv), .int .i64 ((ti.count : Int) + 1)] 68 (0, 0)) := heap_alloc_new (Y.alloc (.cells #[] 68)) _
                              rw [sz1] at hba
                              have bW2 := bW.trans ((Below.refl (Y.alloc (.cells #[] 68)).heap.size (Y.alloc (.cells #[] 68))).alloc (Nat.le_refl _) (.cells #[.string (mkB pk), .string (mkB pv), .int .i64 ((ti.count : Int) + 1)] 68) |>.mono bW.size)
                              have sz2 : ((Y.alloc (.cells #[] 68)).alloc (.cells #[.string (mkB pk), .string (mkB pv), .int .i64 ((ti.count : Int) + 1)] 68)).heap.size = Y.heap.size + 2 := by simp
                              have E1 := World.ownsRow.alloc E1 (.cells #[.string (mkB pk), .string (mkB pv), .int .i64 ((ti.count : Int) + 1)] 68)
                              have bW := bW2
                              clear bW2
                              have SB : SameBut q Y ((Y.alloc (.cells #[] 68)).alloc (.cells #[.string (mkB pk), .string (mkB pv), .int .i64 ((ti.count : Int) + 1)] 68)) := fun k hk _ => bW.block k hk
                              (refine hK.out _ _ SB (fun hHeld2 => ?_); clear hK K hHeld; have hHeld := hHeld2; clear hHeld2; try simp only [Act.put, List.getElem_toArray, List.getElem_cons_zero, List.getElem_cons_succ, List.setIfInBounds_toArray, List.set_cons_zero, List.set_cons_succ])
                              (refine wpAnyH_ready (rs := [6]) (by kernel_rfl) (by simp) ?_; refine AllReadyH.cons (o := _) rfl (fun K hK => ?_) AllReadyH.nil)
                              refine step_appRS rfl (.tmp 133) (.tmp 137) 54 rfl Try.underlying54 info_ent rfl (by decide) _ 0 [] _ Ak9 ti.kept.length ck9 (entsC ti.kept) (ents_one _) rfl rfl E1 (rd_drew (RK9.out.below bW)) (entsC_len _) (by omega) (by omega) ?_
                              intro v6 w6 o6 g6 l6
                              have o6n : ∀ g, v6.ownBlock = some g → Y.heap.size ≤ g := fun g hg => (l6 g hg).elim (fun e => by have e : some (Y.heap.size) = some g := e; injection e with e; omega) (fun e => Nat.le_trans bW.size e)
                              have hba := (g6.block _ (lt_of_block hba) (fun e => by have e : some (Y.heap.size + 1) = some (Y.heap.size) := e; injection e with e; omega)).trans hba
                              have bW6 : Below Y.heap.size Y w6 := bW.trans ⟨g6.os, g6.tape, g6.output, g6.size, fun k hk => g6.block k (Nat.lt_of_lt_of_le hk bW.size) (fun e => by have e : some k = some (Y.heap.size) := e; injection e with e; omega)⟩
                              have bW := bW6
                              clear bW6 g6 l6
                              rw [Nat.zero_add, List.nil_append] at o6
                              have SB : SameBut q Y w6 := fun k hk _ => bW.block k hk
                              (refine hK.out _ _ SB (fun hHeld2 => ?_); clear hK K hHeld; have hHeld := hHeld2; clear hHeld2; try simp only [Act.put, List.getElem_toArray, List.getElem_cons_zero, List.getElem_cons_succ, List.setIfInBounds_toArray, List.set_cons_zero, List.set_cons_succ])
                              (refine wpAnyH_ready (rs := [9]) (by kernel_rfl) (by simp) ?_; refine AllReadyH.cons (o := _) rfl (fun K hK => ?_) AllReadyH.nil)
                              refine step_appG rfl (.tmp 138) (.tmp 140) 54 rfl Try.underlying54 info_ent rfl (by decide) _ ti.kept.length (entsC ti.kept) _ _ rfl ?_ rfl rfl hba o6 (by omega) (by omega) ?_
                              · intro y hy
                                simp at hy
                                rcases hy with rfl | rfl | rfl <;> rfl
                              intro g' c' u1 hown hg1 hloc
                              have b7 : Below Y.heap.size Y u1 := bW.trans ⟨hg1.os, hg1.tape, hg1.output, hg1.size, fun k hk => hg1.block k (Nat.lt_of_lt_of_le hk bW.size) (fun e => by have := o6n k e.symm; omega)⟩
                              have e7 : (ti.kept ++ [(⟨pk, pv, ti.count + 1⟩ : Ent)]).length = ti.kept.length + 1 := by simp
                              have eE : entsC [(⟨pk, pv, ti.count + 1⟩ : Ent)] = [.string (mkB pk), .string (mkB pv), .int .i64 ((ti.count : Int) + 1)] := by simp [entsC, entCells]
                              have own7 : u1.ownsRow 0 68 3 (.slice (some ⟨g', 0, none⟩) (ti.kept.length + 1) c') (ti.kept ++ [(⟨pk, pv, ti.count + 1⟩ : Ent)]).length (entsC (ti.kept ++ [(⟨pk, pv, ti.count + 1⟩ : Ent)])) := by
                                rw [e7, entsC_app, eE]; exact hown
                              have M7 := M9.out.below b7
                              have f1 := free_blk M7.blk 4
                              have y17 : u1.cell? ⟨q, 4, none⟩ = some vk' := M7.cells.2.2.2.2.1
                              have M8 := M7.keptSet own7
                              have nX : w.heap.size ≤ g' := by
                                have z5 := U9.out.size
                                rcases hloc with e | e
                                · exact Nat.le_trans z5 (o6n g' e)
                                · exact Nat.le_trans z5 (Nat.le_trans bW.size e)
                              have U8 : But G w (u1.setCell ⟨q, 4, none⟩ (.slice (some ⟨g', 0, none⟩) (ti.kept.length + 1) c')) := (U9.out.thenB (b7.mono U9.out.size)).set (p := ⟨q, 4, none⟩) GQ _
                              have FIN : Hid (Rw w G q (rputs td (ps.take (i + 1))) vr (u1.setCell ⟨q, 4, none⟩ (.slice (some ⟨g', 0, none⟩) (ti.kept.length + 1) c'))) := Lib.hid (by
                                rw [RT.out]
                                exact ⟨_, _, _, _, _, M8, fun g hg => hg.elim (G9H.out g) (fun e => by
                                  have e : some g' = some g := e
                                  injection e with e; rw [← e]; exact .inr nX), U8⟩)
                              have S7 : SameBut q Y u1 := fun k hk _ => b7.block k hk
                              have S8 : SameBut q Y (u1.setCell ⟨q, 4, none⟩ (.slice (some ⟨g', 0, none⟩) (ti.kept.length + 1) c')) := fun k hk hne => (Below.heap_setCell _ _ _ _ hne).trans (b7.block k hk)
                              clear M7 M8 own7 U8 hown hg1 hloc e7
                              (refine hK.out _ _ S7 (fun hHeld2 => ?_); clear hK K hHeld; have hHeld := hHeld2; clear hHeld2; try simp only [Act.put, List.getElem_toArray, List.getElem_cons_zero, List.getElem_cons_succ, List.setIfInBounds_toArray, List.set_cons_zero, List.set_cons_succ])
                              (refine wpAnyH_take (i := 10) (oi := _) (v := ?_) rfl (by kernel_rfl) (by kernel_rfl) (by kernel_rfl) (fun _ _ _ h => h) (Or.inl ⟨?_, ?_⟩) (by assumption) ?_; rotate_left; (focus (first | rfl | (simp [Region.wanted, yielded]; done))); (focus (intro w hSw; (try dsimp only at hSw); go_simp; all_goals (with_reducible rfl))); try simp only [Act.put, List.getElem_toArray, List.getElem_cons_zero, List.getElem_cons_succ, List.setIfInBounds_toArray, List.set_cons_zero, List.set_cons_succ])
                              (refine wpAnyH_take (i := 11) (oi := _) (v := ?_) rfl (by kernel_rfl) (by kernel_rfl) (by kernel_rfl) (fun _ _ _ h => h) (Or.inl ⟨?_, ?_⟩) (by assumption) ?_; rotate_left; (focus (first | rfl | (simp [Region.wanted, yielded]; done))); (focus (intro w hSw; (try dsimp only at hSw); go_simp; all_goals (with_reducible rfl))); try simp only [Act.put, List.getElem_toArray, List.getElem_cons_zero, List.getElem_cons_succ, List.setIfInBounds_toArray, List.set_cons_zero, List.set_cons_succ])
                              (refine wpAnyH_ready (rs := [12]) (by kernel_rfl) (by simp) ?_; refine AllReadyH.cons (o := _) rfl (fun K hK => ?_) AllReadyH.nil; go_simp)
                              (refine hK.out _ _ S8 (fun hHeld2 => ?_); clear hK K hHeld; have hHeld := hHeld2; clear hHeld2; try simp only [Act.put, List.getElem_toArray, List.getElem_cons_zero, List.getElem_cons_succ, List.setIfInBounds_toArray, List.set_cons_zero, List.set_cons_succ])
                              (refine wpAnyH_done (by kernel_rfl) ?_ _; refine NoPanic.normal ?_)
                              clear hHeld F0 F1 F2
                              go_wp2_with fail
                              exact ⟨⟨i + 1, by omega, by go_num, FIN⟩, by simp [intOf]; omega⟩
                          focus
                            go_simp
                            have hba : (Y.alloc (.cells #[.string (mkB pk), .string (mkB pv), .int .i64 ((ti.count : Int) + 1)] 68)).heap[(Y).heap.size]? = some (.cells #[.string (mkB pk), .string (mkB pv), .int .i64 ((ti.count : Int) + 1)] 68 (0, 0)) := heap_alloc_new (Y) _
                            have bW2 := bW.trans ((Below.refl (Y).heap.size (Y)).alloc (Nat.le_refl _) (.cells #[.string (mkB pk), .string (mkB pv), .int .i64 ((ti.count : Int) + 1)] 68) |>.mono bW.size)
                            have sz1 : (Y.alloc (.cells #[.string (mkB pk), .string (mkB pv), .int .i64 ((ti.count : Int) + 1)] 68)).heap.size = Y.heap.size + 1 := by simp
                            have bW := bW2
                            clear bW2
                            have SB : SameBut q Y (Y.alloc (.cells #[.string (mkB pk), .string (mkB pv), .int .i64 ((ti.count : Int) + 1)] 68)) := fun k hk _ => bW.block k hk
                            (refine hK.out _ _ SB (fun hHeld2 => ?_); clear hK K hHeld; have hHeld := hHeld2; clear hHeld2; try simp only [Act.put, List.getElem_toArray, List.getElem_cons_zero, List.getElem_cons_succ, List.setIfInBounds_toArray, List.set_cons_zero, List.set_cons_succ])
                            (refine wpAnyH_ready (rs := [1]) (by kernel_rfl) (by simp) ?_; refine AllReadyH.cons (o := _) rfl (fun K hK => ?_) AllReadyH.nil; go_simp)
                            have E1 := own_emptyE (Y.alloc (.cells #[.string (mkB pk), .string (mkB pv), .int .i64 ((ti.count : Int) + 1)] 68)) rfl 68
                            rw [sz1] at E1
                            have bW2 := bW.trans ((Below.refl (Y.alloc (.cells #[.string (mkB pk), .string (mkB pv), .int .i64 ((ti.count : Int) + 1)] 68)).heap.size (Y.alloc (.cells #[.string (mkB pk), .string (mkB pv), .int .i64 ((ti.count : Int) + 1)] 68))).alloc (Nat.le_refl _) (.cells #[] 68) |>.mono bW.size)
                            have sz2 : ((Y.alloc (.cells #[.string (mkB pk), .string (mkB pv), .int .i64 ((ti.count : Int) + 1)] 68)).alloc (.cells #[] 68)).heap.size = Y.heap.size + 2 := by simp
                            have b1 : Y.heap.size ≤ Y.heap.size + 1 := by omega
                            have hba := (alloc_old (Y.alloc (.cells #[.string (mkB pk), .string (mkB pv), .int .i64 ((ti.count : Int) + 1)] 68)) (.cells #[] 68) (by simp)).trans hba
                            have bW := bW2
                            clear bW2
                            have SB : SameBut q Y ((Y.alloc (.cells #[.string (mkB pk), .string (mkB pv), .int .i64 ((ti.count : Int) + 1)] 68)).alloc (.cells #[] 68)) := fun k hk _ => bW.block k hk
                            (refine hK.out _ _ SB (fun hHeld2 => ?_); clear hK K hHeld; have hHeld := hHeld2; clear hHeld2; try simp only [Act.put, List.getElem_toArray, List.getElem_cons_zero, List.getElem_cons_succ, List.setIfInBounds_toArray, List.set_cons_zero, List.set_cons_succ])
                            (refine wpAnyH_ready (rs := [6]) (by kernel_rfl) (by simp) ?_; refine AllReadyH.cons (o := _) rfl (fun K hK => ?_) AllReadyH.nil)
                            refine step_appRS rfl (.tmp 133) (.tmp 137) 54 rfl Try.underlying54 info_ent rfl (by decide) _ 0 [] _ Ak9 ti.kept.length ck9 (entsC ti.kept) (ents_one _) rfl rfl E1 (rd_drew (RK9.out.below bW)) (entsC_len _) (by omega) (by omega) ?_
                            intro v6 w6 o6 g6 l6
                            have o6n : ∀ g, v6.ownBlock = some g → Y.heap.size ≤ g := fun g hg => (l6 g hg).elim (fun e => by have e : some (Y.heap.size + 1) = some g := e; injection e with e; omega) (fun e => Nat.le_trans bW.size e)
                            have hba := (g6.block _ (lt_of_block hba) (fun e => by have e : some (Y.heap.size) = some (Y.heap.size + 1) := e; injection e with e; omega)).trans hba
                            have bW6 : Below Y.heap.size Y w6 := bW.trans ⟨g6.os, g6.tape, g6.output, g6.size, fun k hk => g6.block k (Nat.lt_of_lt_of_le hk bW.size) (fun e => by have e : some k = some (Y.heap.size + 1) := e; injection e with e; omega)⟩
                            have bW := bW6
                            clear bW6 g6 l6
                            rw [Nat.zero_add, List.nil_append] at o6
                            have SB : SameBut q Y w6 := fun k hk _ => bW.block k hk
                            (refine hK.out _ _ SB (fun hHeld2 => ?_); clear hK K hHeld; have hHeld := hHeld2; clear hHeld2; try simp only [Act.put, List.getElem_toArray, List.getElem_cons_zero, List.getElem_cons_succ, List.setIfInBounds_toArray, List.set_cons_zero, List.set_cons_succ])
                            (refine wpAnyH_ready (rs := [9]) (by kernel_rfl) (by simp) ?_; refine AllReadyH.cons (o := _) rfl (fun K hK => ?_) AllReadyH.nil)
                            refine step_appG rfl (.tmp 138) (.tmp 140) 54 rfl Try.underlying54 info_ent rfl (by decide) _ ti.kept.length (entsC ti.kept) _ _ rfl ?_ rfl rfl hba o6 (by omega) (by omega) ?_
                            · intro y hy
                              simp at hy
                              rcases hy with rfl | rfl | rfl <;> rfl
                            intro g' c' u1 hown hg1 hloc
                            have b7 : Below Y.heap.size Y u1 := bW.trans ⟨hg1.os, hg1.tape, hg1.output, hg1.size, fun k hk => hg1.block k (Nat.lt_of_lt_of_le hk bW.size) (fun e => by have := o6n k e.symm; omega)⟩
                            have e7 : (ti.kept ++ [(⟨pk, pv, ti.count + 1⟩ : Ent)]).length = ti.kept.length + 1 := by simp
                            have eE : entsC [(⟨pk, pv, ti.count + 1⟩ : Ent)] = [.string (mkB pk), .string (mkB pv), .int .i64 ((ti.count : Int) + 1)] := by simp [entsC, entCells]
                            have own7 : u1.ownsRow 0 68 3 (.slice (some ⟨g', 0, none⟩) (ti.kept.length + 1) c') (ti.kept ++ [(⟨pk, pv, ti.count + 1⟩ : Ent)]).length (entsC (ti.kept ++ [(⟨pk, pv, ti.count + 1⟩ : Ent)])) := by
                              rw [e7, entsC_app, eE]; exact hown
                            have M7 := M9.out.below b7
                            have f1 := free_blk M7.blk 4
                            have y17 : u1.cell? ⟨q, 4, none⟩ = some vk' := M7.cells.2.2.2.2.1
                            have M8 := M7.keptSet own7
                            have nX : w.heap.size ≤ g' := by
                              have z5 := U9.out.size
                              rcases hloc with e | e
                              · exact Nat.le_trans z5 (o6n g' e)
                              · exact Nat.le_trans z5 (Nat.le_trans bW.size e)
                            have U8 : But G w (u1.setCell ⟨q, 4, none⟩ (.slice (some ⟨g', 0, none⟩) (ti.kept.length + 1) c')) := (U9.out.thenB (b7.mono U9.out.size)).set (p := ⟨q, 4, none⟩) GQ _
                            have FIN : Hid (Rw w G q (rputs td (ps.take (i + 1))) vr (u1.setCell ⟨q, 4, none⟩ (.slice (some ⟨g', 0, none⟩) (ti.kept.length + 1) c'))) := Lib.hid (by
                              rw [RT.out]
                              exact ⟨_, _, _, _, _, M8, fun g hg => hg.elim (G9H.out g) (fun e => by
                                have e : some g' = some g := e
                                injection e with e; rw [← e]; exact .inr nX), U8⟩)
                            have S7 : SameBut q Y u1 := fun k hk _ => b7.block k hk
                            have S8 : SameBut q Y (u1.setCell ⟨q, 4, none⟩ (.slice (some ⟨g', 0, none⟩) (ti.kept.length + 1) c')) := fun k hk hne => (Below.heap_setCell _ _ _ _ hne).trans (b7.block k hk)
                            clear M7 M8 own7 U8 hown hg1 hloc e7
                            (refine hK.out _ _ S7 (fun hHeld2 => ?_); clear hK K hHeld; have hHeld := hHeld2; clear hHeld2; try simp only [Act.put, List.getElem_toArray, List.getElem_cons_zero, List.getElem_cons_succ, List.setIfInBounds_toArray, List.set_cons_zero, List.set_cons_succ])
                            (refine wpAnyH_take (i := 10) (oi := _) (v := ?_) rfl (by kernel_rfl) (by kernel_rfl) (by kernel_rfl) (fun _ _ _ h => h) (Or.inl ⟨?_, ?_⟩) (by assumption) ?_; rotate_left; (focus (first | rfl | (simp [Region.wanted, yielded]; done))); (focus (intro w hSw; (try dsimp only at hSw); go_simp; all_goals (with_reducible rfl))); try simp only [Act.put, List.getElem_toArray, List.getElem_cons_zero, List.getElem_cons_succ, List.setIfInBounds_toArray, List.set_cons_zero, List.set_cons_succ])
                            (refine wpAnyH_take (i := 11) (oi := _) (v := ?_) rfl (by kernel_rfl) (by kernel_rfl) (by kernel_rfl) (fun _ _ _ h => h) (Or.inl ⟨?_, ?_⟩) (by assumption) ?_; rotate_left; (focus (first | rfl | (simp [Region.wanted, yielded]; done))); (focus (intro w hSw; (try dsimp only at hSw); go_simp; all_goals (with_reducible rfl))); try simp only [Act.put, List.getElem_toArray, List.getElem_cons_zero, List.getElem_cons_succ, List.setIfInBounds_toArray, List.set_cons_zero, List.set_cons_succ])
                            (refine wpAnyH_ready (rs := [12]) (by kernel_rfl) (by simp) ?_; refine AllReadyH.cons (o := _) rfl (fun K hK => ?_) AllReadyH.nil; go_simp)
                            (refine hK.out _ _ S8 (fun hHeld2 => ?_); clear hK K hHeld; have hHeld := hHeld2; clear hHeld2; try simp only [Act.put, List.getElem_toArray, List.getElem_cons_zero, List.getElem_cons_succ, List.setIfInBounds_toArray, List.set_cons_zero, List.set_cons_succ])
                            (refine wpAnyH_done (by kernel_rfl) ?_ _; refine NoPanic.normal ?_)
                            clear hHeld F0 F1 F2
                            go_wp2_with fail
                            exact ⟨⟨i + 1, by omega, by go_num, FIN⟩, by simp [intOf]; omega⟩
                        focus
                          go_simp
                          have hba : (Y.alloc (.cells #[.string (mkB pk), .string (mkB pv), .int .i64 ((ti.count : Int) + 1)] 68)).heap[(Y).heap.size]? = some (.cells #[.string (mkB pk), .string (mkB pv), .int .i64 ((ti.count : Int) + 1)] 68 (0, 0)) := heap_alloc_new (Y) _
                          have bW2 := bW.trans ((Below.refl (Y).heap.size (Y)).alloc (Nat.le_refl _) (.cells #[.string (mkB pk), .string (mkB pv), .int .i64 ((ti.count : Int) + 1)] 68) |>.mono bW.size)
                          have sz1 : (Y.alloc (.cells #[.string (mkB pk), .string (mkB pv), .int .i64 ((ti.count : Int) + 1)] 68)).heap.size = Y.heap.size + 1 := by simp
                          have bW := bW2
                          clear bW2
                          have SB : SameBut q Y (Y.alloc (.cells #[.string (mkB pk), .string (mkB pv), .int .i64 ((ti.count : Int) + 1)] 68)) := fun k hk _ => bW.block k hk
                          (refine hK.out _ _ SB (fun hHeld2 => ?_); clear hK K hHeld; have hHeld := hHeld2; clear hHeld2; try simp only [Act.put, List.getElem_toArray, List.getElem_cons_zero, List.getElem_cons_succ, List.setIfInBounds_toArray, List.set_cons_zero, List.set_cons_succ])
                          (refine wpAnyH_ready (rs := [1, 5]) (by kernel_rfl) (by simp) ?_; refine AllReadyH.cons (o := _) rfl (fun K hK => ?_) (AllReadyH.cons (o := _) rfl (fun K hK => ?_) AllReadyH.nil))
                          focus
                            go_simp
                            have E1 := own_emptyE (Y.alloc (.cells #[.string (mkB pk), .string (mkB pv), .int .i64 ((ti.count : Int) + 1)] 68)) rfl 68
                            rw [sz1] at E1
                            have bW2 := bW.trans ((Below.refl (Y.alloc (.cells #[.string (mkB pk), .string (mkB pv), .int .i64 ((ti.count : Int) + 1)] 68)).heap.size (Y.alloc (.cells #[.string (mkB pk), .string (mkB pv), .int .i64 ((ti.count : Int) + 1)] 68))).alloc (Nat.le_refl _) (.cells #[] 68) |>.mono bW.size)
                            have sz2 : ((Y.alloc (.cells #[.string (mkB pk), .string (mkB pv), .int .i64 ((ti.count : Int) + 1)] 68)).alloc (.cells #[] 68)).heap.size = Y.heap.size + 2 := by simp
                            have b1 : Y.heap.size ≤ Y.heap.size + 1 := by omega
                            have hba := (alloc_old (Y.alloc (.cells #[.string (mkB pk), .string (mkB pv), .int .i64 ((ti.count : Int) + 1)] 68)) (.cells #[] 68) (by simp)).trans hba
                            have bW := bW2
                            clear bW2
                            have SB : SameBut q Y ((Y.alloc (.cells #[.string (mkB pk), .string (mkB pv), .int .i64 ((ti.count : Int) + 1)] 68)).alloc (.cells #[] 68)) := fun k hk _ => bW.block k hk
                            (refine hK.out _ _ SB (fun hHeld2 => ?_); clear hK K hHeld; have hHeld := hHeld2; clear hHeld2; try simp only [Act.put, List.getElem_toArray, List.getElem_cons_zero, List.getElem_cons_succ, List.setIfInBounds_toArray, List.set_cons_zero, List.set_cons_succ])
                            have yk5 : ((Y.alloc (.cells #[.string (mkB pk), .string (mkB pv), .int .i64 ((ti.count : Int) + 1)] 68)).alloc (.cells #[] 68)).cell? ⟨q, 4, none⟩ = some (.slice Ak9 ti.kept.length ck9) := (World.cell?_of_block (a := ⟨q, 4, none⟩) (bW.block q zqy)).trans yk
                            (refine wpAnyH_ready (rs := [5]) (by kernel_rfl) (by simp) ?_; refine AllReadyH.cons (o := _) rfl (fun K hK => ?_) AllReadyH.nil; go_simp)
                            have SB : SameBut q Y ((Y.alloc (.cells #[.string (mkB pk), .string (mkB pv), .int .i64 ((ti.count : Int) + 1)] 68)).alloc (.cells #[] 68)) := fun k hk _ => bW.block k hk
                            (refine hK.out _ _ SB (fun hHeld2 => ?_); clear hK K hHeld; have hHeld := hHeld2; clear hHeld2; try simp only [Act.put, List.getElem_toArray, List.getElem_cons_zero, List.getElem_cons_succ, List.setIfInBounds_toArray, List.set_cons_zero, List.set_cons_succ])
                            (refine wpAnyH_ready (rs := [6]) (by kernel_rfl) (by simp) ?_; refine AllReadyH.cons (o := _) rfl (fun K hK => ?_) AllReadyH.nil)
                            refine step_appRS rfl (.tmp 133) (.tmp 137) 54 rfl Try.underlying54 info_ent rfl (by decide) _ 0 [] _ Ak9 ti.kept.length ck9 (entsC ti.kept) (ents_one _) rfl rfl E1 (rd_drew (RK9.out.below bW)) (entsC_len _) (by omega) (by omega) ?_
                            intro v6 w6 o6 g6 l6
                            have o6n : ∀ g, v6.ownBlock = some g → Y.heap.size ≤ g := fun g hg => (l6 g hg).elim (fun e => by have e : some (Y.heap.size + 1) = some g := e; injection e with e; omega) (fun e => Nat.le_trans bW.size e)
                            have hba := (g6.block _ (lt_of_block hba) (fun e => by have e : some (Y.heap.size) = some (Y.heap.size + 1) := e; injection e with e; omega)).trans hba
                            have bW6 : Below Y.heap.size Y w6 := bW.trans ⟨g6.os, g6.tape, g6.output, g6.size, fun k hk => g6.block k (Nat.lt_of_lt_of_le hk bW.size) (fun e => by have e : some k = some (Y.heap.size + 1) := e; injection e with e; omega)⟩
                            have bW := bW6
                            clear bW6 g6 l6
                            rw [Nat.zero_add, List.nil_append] at o6
                            have SB : SameBut q Y w6 := fun k hk _ => bW.block k hk
                            (refine hK.out _ _ SB (fun hHeld2 => ?_); clear hK K hHeld; have hHeld := hHeld2; clear hHeld2; try simp only [Act.put, List.getElem_toArray, List.getElem_cons_zero, List.getElem_cons_succ, List.setIfInBounds_toArray, List.set_cons_zero, List.set_cons_succ])
                            (refine wpAnyH_ready (rs := [9]) (by kernel_rfl) (by simp) ?_; refine AllReadyH.cons (o := _) rfl (fun K hK => ?_) AllReadyH.nil)
                            refine step_appG rfl (.tmp 138) (.tmp 140) 54 rfl Try.underlying54 info_ent rfl (by decide) _ ti.kept.length (entsC ti.kept) _ _ rfl ?_ rfl rfl hba o6 (by omega) (by omega) ?_
                            · intro y hy
                              simp at hy
                              rcases hy with rfl | rfl | rfl <;> rfl
                            intro g' c' u1 hown hg1 hloc
                            have b7 : Below Y.heap.size Y u1 := bW.trans ⟨hg1.os, hg1.tape, hg1.output, hg1.size, fun k hk => hg1.block k (Nat.lt_of_lt_of_le hk bW.size) (fun e => by have := o6n k e.symm; omega)⟩
                            have e7 : (ti.kept ++ [(⟨pk, pv, ti.count + 1⟩ : Ent)]).length = ti.kept.length + 1 := by simp
                            have eE : entsC [(⟨pk, pv, ti.count + 1⟩ : Ent)] = [.string (mkB pk), .string (mkB pv), .int .i64 ((ti.count : Int) + 1)] := by simp [entsC, entCells]
                            have own7 : u1.ownsRow 0 68 3 (.slice (some ⟨g', 0, none⟩) (ti.kept.length + 1) c') (ti.kept ++ [(⟨pk, pv, ti.count + 1⟩ : Ent)]).length (entsC (ti.kept ++ [(⟨pk, pv, ti.count + 1⟩ : Ent)])) := by
                              rw [e7, entsC_app, eE]; exact hown
                            have M7 := M9.out.below b7
                            have f1 := free_blk M7.blk 4
                            have y17 : u1.cell? ⟨q, 4, none⟩ = some vk' := M7.cells.2.2.2.2.1
                            have M8 := M7.keptSet own7
                            have nX : w.heap.size ≤ g' := by
                              have z5 := U9.out.size
                              rcases hloc with e | e
                              · exact Nat.le_trans z5 (o6n g' e)
                              · exact Nat.le_trans z5 (Nat.le_trans bW.size e)
                            have U8 : But G w (u1.setCell ⟨q, 4, none⟩ (.slice (some ⟨g', 0, none⟩) (ti.kept.length + 1) c')) := (U9.out.thenB (b7.mono U9.out.size)).set (p := ⟨q, 4, none⟩) GQ _
                            have FIN : Hid (Rw w G q (rputs td (ps.take (i + 1))) vr (u1.setCell ⟨q, 4, none⟩ (.slice (some ⟨g', 0, none⟩) (ti.kept.length + 1) c'))) := Lib.hid (by
                              rw [RT.out]
                              exact ⟨_, _, _, _, _, M8, fun g hg => hg.elim (G9H.out g) (fun e => by
                                have e : some g' = some g := e
                                injection e with e; rw [← e]; exact .inr nX), U8⟩)
                            have S7 : SameBut q Y u1 := fun k hk _ => b7.block k hk
                            have S8 : SameBut q Y (u1.setCell ⟨q, 4, none⟩ (.slice (some ⟨g', 0, none⟩) (ti.kept.length + 1) c')) := fun k hk hne => (Below.heap_setCell _ _ _ _ hne).trans (b7.block k hk)
                            clear M7 M8 own7 U8 hown hg1 hloc e7
                            (refine hK.out _ _ S7 (fun hHeld2 => ?_); clear hK K hHeld; have hHeld := hHeld2; clear hHeld2; try simp only [Act.put, List.getElem_toArray, List.getElem_cons_zero, List.getElem_cons_succ, List.setIfInBounds_toArray, List.set_cons_zero, List.set_cons_succ])
                            (refine wpAnyH_take (i := 10) (oi := _) (v := ?_) rfl (by kernel_rfl) (by kernel_rfl) (by kernel_rfl) (fun _ _ _ h => h) (Or.inl ⟨?_, ?_⟩) (by assumption) ?_; rotate_left; (focus (first | rfl | (simp [Region.wanted, yielded]; done))); (focus (intro w hSw; (try dsimp only at hSw); go_simp; all_goals (with_reducible rfl))); try simp only [Act.put, List.getElem_toArray, List.getElem_cons_zero, List.getElem_cons_succ, List.setIfInBounds_toArray, List.set_cons_zero, List.set_cons_succ])
                            (refine wpAnyH_take (i := 11) (oi := _) (v := ?_) rfl (by kernel_rfl) (by kernel_rfl) (by kernel_rfl) (fun _ _ _ h => h) (Or.inl ⟨?_, ?_⟩) (by assumption) ?_; rotate_left; (focus (first | rfl | (simp [Region.wanted, yielded]; done))); (focus (intro w hSw; (try dsimp only at hSw); go_simp; all_goals (with_reducible rfl))); try simp only [Act.put, List.getElem_toArray, List.getElem_cons_zero, List.getElem_cons_succ, List.setIfInBounds_toArray, List.set_cons_zero, List.set_cons_succ])
                            (refine wpAnyH_ready (rs := [12]) (by kernel_rfl) (by simp) ?_; refine AllReadyH.cons (o := _) rfl (fun K hK => ?_) AllReadyH.nil; go_simp)
                            (refine hK.out _ _ S8 (fun hHeld2 => ?_); clear hK K hHeld; have hHeld := hHeld2; clear hHeld2; try simp only [Act.put, List.getElem_toArray, List.getElem_cons_zero, List.getElem_cons_succ, List.setIfInBounds_toArray, List.set_cons_zero, List.set_cons_succ])
                            (refine wpAnyH_done (by kernel_rfl) ?_ _; refine NoPanic.normal ?_)
                            clear hHeld F0 F1 F2
                            go_wp2_with fail
                            exact ⟨⟨i + 1, by omega, by go_num, FIN⟩, by simp [intOf]; omega⟩
                          focus
                            have yk5 : (Y.alloc (.cells #[.string (mkB pk), .string (mkB pv), .int .i64 ((ti.count : Int) + 1)] 68)).cell? ⟨q, 4, none⟩ = some (.slice Ak9 ti.kept.length ck9) := (World.cell?_of_block (a := ⟨q, 4, none⟩) (bW.block q zqy)).trans yk
                            go_simp
                            have SB : SameBut q Y (Y.alloc (.cells #[.string (mkB pk), .string (mkB pv), .int .i64 ((ti.count : Int) + 1)] 68)) := fun k hk _ => bW.block k hk
                            (refine hK.out _ _ SB (fun hHeld2 => ?_); clear hK K hHeld; have hHeld := hHeld2; clear hHeld2; try simp only [Act.put, List.getElem_toArray, List.getElem_cons_zero, List.getElem_cons_succ, List.setIfInBounds_toArray, List.set_cons_zero, List.set_cons_succ])
                            (refine wpAnyH_ready (rs := [1]) (by kernel_rfl) (by simp) ?_; refine AllReadyH.cons (o := _) rfl (fun K hK => ?_) AllReadyH.nil; go_simp)
                            have E1 := own_emptyE (Y.alloc (.cells #[.string (mkB pk), .string (mkB pv), .int .i64 ((ti.count : Int) + 1)] 68)) rfl 68
                            rw [sz1] at E1
                            have bW2 := bW.trans ((Below.refl (Y.alloc (.cells #[.string (mkB pk), .string (mkB pv), .int .i64 ((ti.count : Int) + 1)] 68)).heap.size (Y.alloc (.cells #[.string (mkB pk), .string (mkB pv), .int .i64 ((ti.count : Int) + 1)] 68))).alloc (Nat.le_refl _) (.cells #[] 68) |>.mono bW.size)
                            have sz2 : ((Y.alloc (.cells #[.string (mkB pk), .string (mkB pv), .int .i64 ((ti.count : Int) + 1)] 68)).alloc (.cells #[] 68)).heap.size = Y.heap.size + 2 := by simp
                            have b1 : Y.heap.size ≤ Y.heap.size + 1 := by omega
                            have hba := (alloc_old (Y.alloc (.cells #[.string (mkB pk), .string (mkB pv), .int .i64 ((ti.count : Int) + 1)] 68)) (.cells #[] 68) (by simp)).trans hba
                            have bW := bW2
                            clear bW2
                            have SB : SameBut q Y ((Y.alloc (.cells #[.string (mkB pk), .string (mkB pv), .int .i64 ((ti.count : Int) + 1)] 68)).alloc (.cells #[] 68)) := fun k hk _ => bW.block k hk
                            (refine hK.out _ _ SB (fun hHeld2 => ?_); clear hK K hHeld; have hHeld := hHeld2; clear hHeld2; try simp only [Act.put, List.getElem_toArray, List.getElem_cons_zero, List.getElem_cons_succ, List.setIfInBounds_toArray, List.set_cons_zero, List.set_cons_succ])
                            (refine wpAnyH_ready (rs := [6]) (by kernel_rfl) (by simp) ?_; refine AllReadyH.cons (o := _) rfl (fun K hK => ?_) AllReadyH.nil)
                            refine step_appRS rfl (.tmp 133) (.tmp 137) 54 rfl Try.underlying54 info_ent rfl (by decide) _ 0 [] _ Ak9 ti.kept.length ck9 (entsC ti.kept) (ents_one _) rfl rfl E1 (rd_drew (RK9.out.below bW)) (entsC_len _) (by omega) (by omega) ?_
                            intro v6 w6 o6 g6 l6
                            have o6n : ∀ g, v6.ownBlock = some g → Y.heap.size ≤ g := fun g hg => (l6 g hg).elim (fun e => by have e : some (Y.heap.size + 1) = some g := e; injection e with e; omega) (fun e => Nat.le_trans bW.size e)
                            have hba := (g6.block _ (lt_of_block hba) (fun e => by have e : some (Y.heap.size) = some (Y.heap.size + 1) := e; injection e with e; omega)).trans hba
                            have bW6 : Below Y.heap.size Y w6 := bW.trans ⟨g6.os, g6.tape, g6.output, g6.size, fun k hk => g6.block k (Nat.lt_of_lt_of_le hk bW.size) (fun e => by have e : some k = some (Y.heap.size + 1) := e; injection e with e; omega)⟩
                            have bW := bW6
                            clear bW6 g6 l6
                            rw [Nat.zero_add, List.nil_append] at o6
                            have SB : SameBut q Y w6 := fun k hk _ => bW.block k hk
                            (refine hK.out _ _ SB (fun hHeld2 => ?_); clear hK K hHeld; have hHeld := hHeld2; clear hHeld2; try simp only [Act.put, List.getElem_toArray, List.getElem_cons_zero, List.getElem_cons_succ, List.setIfInBounds_toArray, List.set_cons_zero, List.set_cons_succ])
                            (refine wpAnyH_ready (rs := [9]) (by kernel_rfl) (by simp) ?_; refine AllReadyH.cons (o := _) rfl (fun K hK => ?_) AllReadyH.nil)
                            refine step_appG rfl (.tmp 138) (.tmp 140) 54 rfl Try.underlying54 info_ent rfl (by decide) _ ti.kept.length (entsC ti.kept) _ _ rfl ?_ rfl rfl hba o6 (by omega) (by omega) ?_
                            · intro y hy
                              simp at hy
                              rcases hy with rfl | rfl | rfl <;> rfl
                            intro g' c' u1 hown hg1 hloc
                            have b7 : Below Y.heap.size Y u1 := bW.trans ⟨hg1.os, hg1.tape, hg1.output, hg1.size, fun k hk => hg1.block k (Nat.lt_of_lt_of_le hk bW.size) (fun e => by have := o6n k e.symm; omega)⟩
                            have e7 : (ti.kept ++ [(⟨pk, pv, ti.count + 1⟩ : Ent)]).length = ti.kept.length + 1 := by simp
                            have eE : entsC [(⟨pk, pv, ti.count + 1⟩ : Ent)] = [.string (mkB pk), .string (mkB pv), .int .i64 ((ti.count : Int) + 1)] := by simp [entsC, entCells]
                            have own7 : u1.ownsRow 0 68 3 (.slice (some ⟨g', 0, none⟩) (ti.kept.length + 1) c') (ti.kept ++ [(⟨pk, pv, ti.count + 1⟩ : Ent)]).length (entsC (ti.kept ++ [(⟨pk, pv, ti.count + 1⟩ : Ent)])) := by
                              rw [e7, entsC_app, eE]; exact hown
                            have M7 := M9.out.below b7
                            have f1 := free_blk M7.blk 4
                            have y17 : u1.cell? ⟨q, 4, none⟩ = some vk' := M7.cells.2.2.2.2.1
                            have M8 := M7.keptSet own7
                            have nX : w.heap.size ≤ g' := by
                              have z5 := U9.out.size
                              rcases hloc with e | e
                              · exact Nat.le_trans z5 (o6n g' e)
                              · exact Nat.le_trans z5 (Nat.le_trans bW.size e)
                            have U8 : But G w (u1.setCell ⟨q, 4, none⟩ (.slice (some ⟨g', 0, none⟩) (ti.kept.length + 1) c')) := (U9.out.thenB (b7.mono U9.out.size)).set (p := ⟨q, 4, none⟩) GQ _
                            have FIN : Hid (Rw w G q (rputs td (ps.take (i + 1))) vr (u1.setCell ⟨q, 4, none⟩ (.slice (some ⟨g', 0, none⟩) (ti.kept.length + 1) c'))) := Lib.hid (by
                              rw [RT.out]
                              exact ⟨_, _, _, _, _, M8, fun g hg => hg.elim (G9H.out g) (fun e => by
                                have e : some g' = some g := e
                                injection e with e; rw [← e]; exact .inr nX), U8⟩)
                            have S7 : SameBut q Y u1 := fun k hk _ => b7.block k hk
                            have S8 : SameBut q Y (u1.setCell ⟨q, 4, none⟩ (.slice (some ⟨g', 0, none⟩) (ti.kept.length + 1) c')) := fun k hk hne => (Below.heap_setCell _ _ _ _ hne).trans (b7.block k hk)
                            clear M7 M8 own7 U8 hown hg1 hloc e7
                            (refine hK.out _ _ S7 (fun hHeld2 => ?_); clear hK K hHeld; have hHeld := hHeld2; clear hHeld2; try simp only [Act.put, List.getElem_toArray, List.getElem_cons_zero, List.getElem_cons_succ, List.setIfInBounds_toArray, List.set_cons_zero, List.set_cons_succ])
                            (refine wpAnyH_take (i := 10) (oi := _) (v := ?_) rfl (by kernel_rfl) (by kernel_rfl) (by kernel_rfl) (fun _ _ _ h => h) (Or.inl ⟨?_, ?_⟩) (by assumption) ?_; rotate_left; (focus (first | rfl | (simp [Region.wanted, yielded]; done))); (focus (intro w hSw; (try dsimp only at hSw); go_simp; all_goals (with_reducible rfl))); try simp only [Act.put, List.getElem_toArray, List.getElem_cons_zero, List.getElem_cons_succ, List.setIfInBounds_toArray, List.set_cons_zero, List.set_cons_succ])
                            (refine wpAnyH_take (i := 11) (oi := _) (v := ?_) rfl (by kernel_rfl) (by kernel_rfl) (by kernel_rfl) (fun _ _ _ h => h) (Or.inl ⟨?_, ?_⟩) (by assumption) ?_; rotate_left; (focus (first | rfl | (simp [Region.wanted, yielded]; done))); (focus (intro w hSw; (try dsimp only at hSw); go_simp; all_goals (with_reducible rfl))); try simp only [Act.put, List.getElem_toArray, List.getElem_cons_zero, List.getElem_cons_succ, List.setIfInBounds_toArray, List.set_cons_zero, List.set_cons_succ])
                            (refine wpAnyH_ready (rs := [12]) (by kernel_rfl) (by simp) ?_; refine AllReadyH.cons (o := _) rfl (fun K hK => ?_) AllReadyH.nil; go_simp)
                            (refine hK.out _ _ S8 (fun hHeld2 => ?_); clear hK K hHeld; have hHeld := hHeld2; clear hHeld2; try simp only [Act.put, List.getElem_toArray, List.getElem_cons_zero, List.getElem_cons_succ, List.setIfInBounds_toArray, List.set_cons_zero, List.set_cons_succ])
                            (refine wpAnyH_done (by kernel_rfl) ?_ _; refine NoPanic.normal ?_)
                            clear hHeld F0 F1 F2
                            go_wp2_with fail
                            exact ⟨⟨i + 1, by omega, by go_num, FIN⟩, by simp [intOf]; omega⟩
                      have E0 : ∀ w' : World, SameBut q X w' → w'.cell? ⟨bk, ok + i, none⟩ = some (.string (mkB pk)) := fun w' h => (World.cell?_of_block (a := ⟨bk, ok + i, none⟩) (h bk zkx bkq)).trans xk
                      have X0 : X.cell? ⟨bx, 0, none⟩ = some (.string (mkB pk)) := cell_of_row X bx 0 _ _ _ xb
                      have X1 : X.cell? ⟨bx, 1, none⟩ = some (.string (mkB pv)) := cell_of_row X bx 1 _ _ _ xb
                      have X2 : X.cell? ⟨bx, 2, none⟩ = some (.int .i64 ((ti.count : Int) + 1)) := cell_of_row X bx 2 _ _ _ xb
                      have F0 : ∀ w' : World, SameBut q X w' → w'.cell? ⟨bx, 0, none⟩ = some (.string (mkB pk)) := fun w' h => (World.cell?_of_block (a := ⟨bx, 0, none⟩) (h bx zbx xbq)).trans X0
                      have F1 : ∀ w' : World, SameBut q X w' → w'.cell? ⟨bx, 1, none⟩ = some (.string (mkB pv)) := fun w' h => (World.cell?_of_block (a := ⟨bx, 1, none⟩) (h bx zbx xbq)).trans X1
                      have F2 : ∀ w' : World, SameBut q X w' → w'.cell? ⟨bx, 2, none⟩ = some (.int .i64 ((ti.count : Int) + 1)) := fun w' h => (World.cell?_of_block (a := ⟨bx, 2, none⟩) (h bx zbx xbq)).trans X2
                      have SB0 : SameBut q X X.drew := fun _ _ _ => rfl
                      (refine wp_region_noPanic ?_; refine wp_region_held_drew (S := (fun w' : World => SameBut q X w')) (by kernel_rfl) ?_ (fun hHeld => ?_); exact SB0)
                      (refine wpAnyH_take (i := 0) (oi := _) (v := ?_) rfl (by kernel_rfl) (by kernel_rfl) (by kernel_rfl) (fun _ _ _ h => h) (Or.inl ⟨?_, ?_⟩) (by assumption) ?_; rotate_left; (focus (first | rfl | (simp [Region.wanted, yielded]; done))); (focus (intro w hSw; (try dsimp only at hSw); go_simp; all_goals (with_reducible rfl))); try simp only [Act.put, List.getElem_toArray, List.getElem_cons_zero, List.getElem_cons_succ, List.setIfInBounds_toArray, List.set_cons_zero, List.set_cons_succ])
                      (refine wpAnyH_take (i := 1) (oi := _) (v := ?_) rfl (by kernel_rfl) (by kernel_rfl) (by kernel_rfl) (fun _ _ _ h => h) (Or.inl ⟨?_, ?_⟩) (by assumption) ?_; rotate_left; (focus (first | rfl | (simp [Region.wanted, yielded]; done))); (focus (intro w hSw; (try dsimp only at hSw); go_simp; all_goals (with_reducible rfl))); try simp only [Act.put, List.getElem_toArray, List.getElem_cons_zero, List.getElem_cons_succ, List.setIfInBounds_toArray, List.set_cons_zero, List.set_cons_succ])
                      (refine wpAnyH_take (i := 2) (oi := _) (v := ?_) rfl (by kernel_rfl) (by kernel_rfl) (by kernel_rfl) (fun _ _ _ h => h) (Or.inl ⟨?_, ?_⟩) (by assumption) ?_; rotate_left; (focus (first | rfl | (simp [Region.wanted, yielded]; done))); (focus (intro w hSw; (try dsimp only at hSw); go_simp; all_goals (with_reducible rfl))); try simp only [Act.put, List.getElem_toArray, List.getElem_cons_zero, List.getElem_cons_succ, List.setIfInBounds_toArray, List.set_cons_zero, List.set_cons_succ])
                      (refine wpAnyH_take (i := 3) (oi := _) (v := ?_) rfl (by kernel_rfl) (by kernel_rfl) (by kernel_rfl) (fun _ _ _ h => h) (Or.inl ⟨?_, ?_⟩) (by assumption) ?_; rotate_left; (focus (first | rfl | (simp [Region.wanted, yielded]; done))); (focus (intro w hSw; (try dsimp only at hSw); go_simp; all_goals (with_reducible rfl))); try simp only [Act.put, List.getElem_toArray, List.getElem_cons_zero, List.getElem_cons_succ, List.setIfInBounds_toArray, List.set_cons_zero, List.set_cons_succ])
                      (refine wpAnyH_take (i := 5) (oi := _) (v := ?_) rfl (by kernel_rfl) (by kernel_rfl) (by kernel_rfl) (fun _ _ _ h => h) (Or.inl ⟨?_, ?_⟩) (by assumption) ?_; rotate_left; (focus (first | rfl | (simp [Region.wanted, yielded]; done))); (focus (intro w hSw; (try dsimp only at hSw); go_simp; all_goals (with_reducible rfl))); try simp only [Act.put, List.getElem_toArray, List.getElem_cons_zero, List.getElem_cons_succ, List.setIfInBounds_toArray, List.set_cons_zero, List.set_cons_succ])
                      (refine wpAnyH_take (i := 6) (oi := _) (v := ?_) rfl (by kernel_rfl) (by kernel_rfl) (by kernel_rfl) (fun _ _ _ h => h) (Or.inl ⟨?_, ?_⟩) (by assumption) ?_; rotate_left; (focus (first | rfl | (simp [Region.wanted, yielded]; done))); (focus (intro w hSw; (try dsimp only at hSw); go_simp; all_goals (with_reducible rfl))); try simp only [Act.put, List.getElem_toArray, List.getElem_cons_zero, List.getElem_cons_succ, List.setIfInBounds_toArray, List.set_cons_zero, List.set_cons_succ])
                      (refine wpAnyH_take (i := 7) (oi := _) (v := ?_) rfl (by kernel_rfl) (by kernel_rfl) (by kernel_rfl) (fun _ _ _ h => h) (Or.inl ⟨?_, ?_⟩) (by assumption) ?_; rotate_left; (focus (first | rfl | (simp [Region.wanted, yielded]; done))); (focus (intro w hSw; (try dsimp only at hSw); go_simp; all_goals (with_reducible rfl))); try simp only [Act.put, List.getElem_toArray, List.getElem_cons_zero, List.getElem_cons_succ, List.setIfInBounds_toArray, List.set_cons_zero, List.set_cons_succ])
                      (refine wpAnyH_take (i := 8) (oi := _) (v := ?_) rfl (by kernel_rfl) (by kernel_rfl) (by kernel_rfl) (fun _ _ _ h => h) (Or.inl ⟨?_, ?_⟩) (by assumption) ?_; rotate_left; (focus (first | rfl | (simp [Region.wanted, yielded]; done))); (focus (intro w hSw; (try dsimp only at hSw); go_simp; all_goals (with_reducible rfl))); try simp only [Act.put, List.getElem_toArray, List.getElem_cons_zero, List.getElem_cons_succ, List.setIfInBounds_toArray, List.set_cons_zero, List.set_cons_succ])
                      (refine wpAnyH_take (i := 10) (oi := _) (v := ?_) rfl (by kernel_rfl) (by kernel_rfl) (by kernel_rfl) (fun _ _ _ h => h) (Or.inl ⟨?_, ?_⟩) (by assumption) ?_; rotate_left; (focus (first | rfl | (simp [Region.wanted, yielded]; done))); (focus (intro w hSw; (try dsimp only at hSw); go_simp; all_goals (with_reducible rfl))); try simp only [Act.put, List.getElem_toArray, List.getElem_cons_zero, List.getElem_cons_succ, List.setIfInBounds_toArray, List.set_cons_zero, List.set_cons_succ])
                      (refine wpAnyH_ready (rs := [4, 11]) (by kernel_rfl) (by simp) ?_; refine AllReadyH.cons (o := _) rfl (fun K hK => ?_) (AllReadyH.cons (o := _) rfl (fun K hK => ?_) AllReadyH.nil))
                      focus
                        go_simp
                        (refine hK.out _ _ SB0 (fun hHeld2 => ?_); clear hK K hHeld; have hHeld := hHeld2; clear hHeld2; try simp only [Act.put, List.getElem_toArray, List.getElem_cons_zero, List.getElem_cons_succ, List.setIfInBounds_toArray, List.set_cons_zero, List.set_cons_succ])
                        (refine wpAnyH_ready (rs := [9, 11]) (by kernel_rfl) (by simp) ?_; refine AllReadyH.cons (o := _) rfl (fun K hK => ?_) (AllReadyH.cons (o := _) rfl (fun K hK => ?_) AllReadyH.nil))
                        focus
                          go_simp
                          refine (WN.out _ (rd_drew RNX.out)).mono ?_
                          rintro e w6 ⟨v1, rfl, o1, b6'⟩
                          have b6 := belowD b6'
                          clear b6'
                          have S6 : SameBut q X w6 := fun k hk _ => b6.block k hk
                          (refine hK.out _ _ S6 (fun hHeld2 => ?_); clear hK K hHeld; have hHeld := hHeld2; clear hHeld2; try simp only [Act.put, List.getElem_toArray, List.getElem_cons_zero, List.getElem_cons_succ, List.setIfInBounds_toArray, List.set_cons_zero, List.set_cons_succ])
                          (refine wpAnyH_ready (rs := [11]) (by kernel_rfl) (by simp) ?_; refine AllReadyH.cons (o := _) rfl (fun K hK => ?_) AllReadyH.nil; go_simp)
                          have SA6 : SameBut q X (w6.alloc (.cells #[.string (mkB pk), .string (mkB pv), .int .i64 ((ti.count : Int) + 1)] 68)) := fun k hk _ => (alloc_old _ _ (Nat.lt_of_lt_of_le hk b6.size)).trans (b6.block k hk)
                          (refine hK.out _ _ SA6 (fun hHeld2 => ?_); clear hK K hHeld; have hHeld := hHeld2; clear hHeld2; try simp only [Act.put, List.getElem_toArray, List.getElem_cons_zero, List.getElem_cons_succ, List.setIfInBounds_toArray, List.set_cons_zero, List.set_cons_succ])
                          have b2 := b6.trans ((Below.refl w6.heap.size w6).alloc (Nat.le_refl _) (.cells #[.string (mkB pk), .string (mkB pv), .int .i64 ((ti.count : Int) + 1)] 68) |>.mono b6.size)
                          have LW : (withoutL ti.newest pk).length ≤ 100200 := Nat.le_trans (List.length_filter_le _ _) (by omega)
                          (refine wpAnyH_ready (rs := [12]) (by kernel_rfl) (by simp) ?_; refine AllReadyH.cons (o := _) rfl (fun K hK => ?_) AllReadyH.nil)
                          refine step_appG rfl (.tmp 126) (.tmp 128) 54 rfl Try.underlying54 info_ent rfl (by decide) _ (withoutL ti.newest pk).length (entsC (withoutL ti.newest pk)) _ _ rfl ?_ rfl rfl (heap_alloc_new w6 _) ((own0 o1).alloc _) (by omega) (by omega) ?_
                          · intro y hy
                            simp at hy
                            rcases hy with rfl | rfl | rfl <;> rfl
                          intro g' c' u1 hown hg1 hloc
                          have b7 : Below X.heap.size X u1 := ⟨hg1.os.trans b2.os, hg1.tape.trans b2.tape, hg1.output.trans b2.output, Nat.le_trans b2.size hg1.size, fun k hk => (hg1.block k (Nat.lt_of_lt_of_le hk b2.size) (fun e => by have := (o1.lt k e.symm).1; simp at this; omega)).trans (b2.block k hk)⟩
                          have e7 : (withoutL ti.newest pk ++ [(⟨pk, pv, ti.count + 1⟩ : Ent)]).length = (withoutL ti.newest pk).length + 1 := by simp
                          have eE : entsC [(⟨pk, pv, ti.count + 1⟩ : Ent)] = [.string (mkB pk), .string (mkB pv), .int .i64 ((ti.count : Int) + 1)] := by simp [entsC, entCells]
                          have own7 : u1.ownsRow 0 68 3 (.slice (some ⟨g', 0, none⟩) ((withoutL ti.newest pk).length + 1) c') (withoutL ti.newest pk ++ [(⟨pk, pv, ti.count + 1⟩ : Ent)]).length (entsC (withoutL ti.newest pk ++ [(⟨pk, pv, ti.count + 1⟩ : Ent)])) := by
                            rw [e7, entsC_app, eE]; exact hown
                          have M7 := M2H.out.below b7
                          have f1 := free_blk M7.blk 1
                          have y17 : u1.cell? ⟨q, 1, none⟩ = some vn' := M7.cells.2.1
                          have M8 := M7.newestSet own7
                          have nX : w.heap.size ≤ g' := by
                            have z5 := U2H.out.size
                            have z2 := b2.size
                            rcases hloc with e | e
                            · have := (o1.lt g' e).1; simp at this; omega
                            · exact Nat.le_trans z5 (Nat.le_trans z2 e)
                          have U8 : But G w (u1.setCell ⟨q, 1, none⟩ (.slice (some ⟨g', 0, none⟩) ((withoutL ti.newest pk).length + 1) c')) := (U2H.out.thenB (b7.mono U2H.out.size)).set (p := ⟨q, 1, none⟩) GQ _
                          have x8 : (u1.setCell ⟨q, 1, none⟩ (.slice (some ⟨g', 0, none⟩) ((withoutL ti.newest pk).length + 1) c')).heap[bx]? = some (.cells #[.string (mkB pk), .string (mkB pv), .int .i64 ((ti.count : Int) + 1)] 68 (0, 0)) := (Below.heap_setCell _ _ _ _ xbq).trans ((b7.block bx zbx).trans xb)
                          have FIN := Lib.hid (show ∃ (G9 : Nat → Prop) (vn9 : Value), RefMem (u1.setCell ⟨q, 1, none⟩ (.slice (some ⟨g', 0, none⟩) ((withoutL ti.newest pk).length + 1) c')) q G9 { ti with count := ti.count + 1, newest := withoutL ti.newest pk ++ [⟨pk, pv, ti.count + 1⟩] } vn9 vr vo' vk' vs' ∧ (∀ g, G9 g → G g ∨ w.heap.size ≤ g) ∧ But G w (u1.setCell ⟨q, 1, none⟩ (.slice (some ⟨g', 0, none⟩) ((withoutL ti.newest pk).length + 1) c')) ∧ (u1.setCell ⟨q, 1, none⟩ (.slice (some ⟨g', 0, none⟩) ((withoutL ti.newest pk).length + 1) c')).heap[bx]? = some (.cells #[.string (mkB pk), .string (mkB pv), .int .i64 ((ti.count : Int) + 1)] 68 (0, 0)) from
                            ⟨_, _, M8, fun g hg => hg.elim (HG.out g) (fun e => by
                              have e : some g' = some g := e
                              injection e with e; rw [← e]; exact .inr nX), U8, x8⟩)
                          have S7 : SameBut q X u1 := fun k hk _ => b7.block k hk
                          have S8 : SameBut q X (u1.setCell ⟨q, 1, none⟩ (.slice (some ⟨g', 0, none⟩) ((withoutL ti.newest pk).length + 1) c')) := fun k hk hne => (Below.heap_setCell _ _ _ _ hne).trans (b7.block k hk)
                          clear M7 M8 own7 U8 hown hg1 hloc e7 x8
                          (refine hK.out _ _ S7 (fun hHeld2 => ?_); clear hK K hHeld; have hHeld := hHeld2; clear hHeld2; try simp only [Act.put, List.getElem_toArray, List.getElem_cons_zero, List.getElem_cons_succ, List.setIfInBounds_toArray, List.set_cons_zero, List.set_cons_succ])
                          (refine wpAnyH_take (i := 13) (oi := _) (v := ?_) rfl (by kernel_rfl) (by kernel_rfl) (by kernel_rfl) (fun _ _ _ h => h) (Or.inl ⟨?_, ?_⟩) (by assumption) ?_; rotate_left; (focus (first | rfl | (simp [Region.wanted, yielded]; done))); (focus (intro w hSw; (try dsimp only at hSw); go_simp; all_goals (with_reducible rfl))); try simp only [Act.put, List.getElem_toArray, List.getElem_cons_zero, List.getElem_cons_succ, List.setIfInBounds_toArray, List.set_cons_zero, List.set_cons_succ])
                          (refine wpAnyH_take (i := 14) (oi := _) (v := ?_) rfl (by kernel_rfl) (by kernel_rfl) (by kernel_rfl) (fun _ _ _ h => h) (Or.inl ⟨?_, ?_⟩) (by assumption) ?_; rotate_left; (focus (first | rfl | (simp [Region.wanted, yielded]; done))); (focus (intro w hSw; (try dsimp only at hSw); go_simp; all_goals (with_reducible rfl))); try simp only [Act.put, List.getElem_toArray, List.getElem_cons_zero, List.getElem_cons_succ, List.setIfInBounds_toArray, List.set_cons_zero, List.set_cons_succ])
                          (refine wpAnyH_ready (rs := [15]) (by kernel_rfl) (by simp) ?_; refine AllReadyH.cons (o := _) rfl (fun K hK => ?_) AllReadyH.nil; go_simp)
                          (refine hK.out _ _ S8 (fun hHeld2 => ?_); clear hK K hHeld; have hHeld := hHeld2; clear hHeld2; try simp only [Act.put, List.getElem_toArray, List.getElem_cons_zero, List.getElem_cons_succ, List.setIfInBounds_toArray, List.set_cons_zero, List.set_cons_succ])
                          (refine wpAnyH_done (by kernel_rfl) ?_ _; refine NoPanic.normal ?_)
                          clear hHeld E0 F0 F1 F2
                          go_wp2_with fail
                          go_meet
                          exact FIN
                        focus
                          go_simp
                          have SA : SameBut q X ((X.alloc (.cells #[.string (mkB pk), .string (mkB pv), .int .i64 ((ti.count : Int) + 1)] 68)).drew) := fun k hk _ => alloc_old _ _ hk
                          (refine hK.out _ _ SA (fun hHeld2 => ?_); clear hK K hHeld; have hHeld := hHeld2; clear hHeld2; try simp only [Act.put, List.getElem_toArray, List.getElem_cons_zero, List.getElem_cons_succ, List.setIfInBounds_toArray, List.set_cons_zero, List.set_cons_succ])
                          (refine wpAnyH_ready (rs := [9]) (by kernel_rfl) (by simp) ?_; refine AllReadyH.cons (o := _) rfl (fun K hK => ?_) AllReadyH.nil; go_simp)
                          have ba := (Below.refl X.heap.size X).alloc (Nat.le_refl _) (.cells #[.string (mkB pk), .string (mkB pv), .int .i64 ((ti.count : Int) + 1)] 68)
                          refine (WN.out _ (rd_drew (RNX.out.below ba))).mono ?_
                          rintro e w6 ⟨v1, rfl, o1, b6'⟩
                          have b6 : Below X.heap.size (X.alloc (.cells #[.string (mkB pk), .string (mkB pv), .int .i64 ((ti.count : Int) + 1)] 68)) w6 := (belowD b6').mono ba.size
                          have hba : w6.heap[X.heap.size]? = some (.cells #[.string (mkB pk), .string (mkB pv), .int .i64 ((ti.count : Int) + 1)] 68 (0, 0)) := ((belowD b6').block _ (by simp)).trans (heap_alloc_new X _)
                          have S6 : SameBut q X w6 := fun k hk _ => (ba.trans b6).block k hk
                          clear b6'
                          (refine hK.out _ _ S6 (fun hHeld2 => ?_); clear hK K hHeld; have hHeld := hHeld2; clear hHeld2; try simp only [Act.put, List.getElem_toArray, List.getElem_cons_zero, List.getElem_cons_succ, List.setIfInBounds_toArray, List.set_cons_zero, List.set_cons_succ])
                          have b2 := ba.trans b6
                          have LW : (withoutL ti.newest pk).length ≤ 100200 := Nat.le_trans (List.length_filter_le _ _) (by omega)
                          (refine wpAnyH_ready (rs := [12]) (by kernel_rfl) (by simp) ?_; refine AllReadyH.cons (o := _) rfl (fun K hK => ?_) AllReadyH.nil)
                          refine step_appG rfl (.tmp 126) (.tmp 128) 54 rfl Try.underlying54 info_ent rfl (by decide) _ (withoutL ti.newest pk).length (entsC (withoutL ti.newest pk)) _ _ rfl ?_ rfl rfl hba (own0 o1) (by omega) (by omega) ?_
                          · intro y hy
                            simp at hy
                            rcases hy with rfl | rfl | rfl <;> rfl
                          intro g' c' u1 hown hg1 hloc
                          have b7 : Below X.heap.size X u1 := ⟨hg1.os.trans b2.os, hg1.tape.trans b2.tape, hg1.output.trans b2.output, Nat.le_trans b2.size hg1.size, fun k hk => (hg1.block k (Nat.lt_of_lt_of_le hk b2.size) (fun e => by have := (o1.lt k e.symm).1; simp at this; omega)).trans (b2.block k hk)⟩
                          have e7 : (withoutL ti.newest pk ++ [(⟨pk, pv, ti.count + 1⟩ : Ent)]).length = (withoutL ti.newest pk).length + 1 := by simp
                          have eE : entsC [(⟨pk, pv, ti.count + 1⟩ : Ent)] = [.string (mkB pk), .string (mkB pv), .int .i64 ((ti.count : Int) + 1)] := by simp [entsC, entCells]
                          have own7 : u1.ownsRow 0 68 3 (.slice (some ⟨g', 0, none⟩) ((withoutL ti.newest pk).length + 1) c') (withoutL ti.newest pk ++ [(⟨pk, pv, ti.count + 1⟩ : Ent)]).length (entsC (withoutL ti.newest pk ++ [(⟨pk, pv, ti.count + 1⟩ : Ent)])) := by
                            rw [e7, entsC_app, eE]; exact hown
                          have M7 := M2H.out.below b7
                          have f1 := free_blk M7.blk 1
                          have y17 : u1.cell? ⟨q, 1, none⟩ = some vn' := M7.cells.2.1
                          have M8 := M7.newestSet own7
                          have nX : w.heap.size ≤ g' := by
                            have z5 := U2H.out.size
                            have z2 := b2.size
                            rcases hloc with e | e
                            · have := (o1.lt g' e).1; simp at this; omega
                            · exact Nat.le_trans z5 (Nat.le_trans z2 e)
                          have U8 : But G w (u1.setCell ⟨q, 1, none⟩ (.slice (some ⟨g', 0, none⟩) ((withoutL ti.newest pk).length + 1) c')) := (U2H.out.thenB (b7.mono U2H.out.size)).set (p := ⟨q, 1, none⟩) GQ _
                          have x8 : (u1.setCell ⟨q, 1, none⟩ (.slice (some ⟨g', 0, none⟩) ((withoutL ti.newest pk).length + 1) c')).heap[bx]? = some (.cells #[.string (mkB pk), .string (mkB pv), .int .i64 ((ti.count : Int) + 1)] 68 (0, 0)) := (Below.heap_setCell _ _ _ _ xbq).trans ((b7.block bx zbx).trans xb)
                          have FIN := Lib.hid (show ∃ (G9 : Nat → Prop) (vn9 : Value), RefMem (u1.setCell ⟨q, 1, none⟩ (.slice (some ⟨g', 0, none⟩) ((withoutL ti.newest pk).length + 1) c')) q G9 { ti with count := ti.count + 1, newest := withoutL ti.newest pk ++ [⟨pk, pv, ti.count + 1⟩] } vn9 vr vo' vk' vs' ∧ (∀ g, G9 g → G g ∨ w.heap.size ≤ g) ∧ But G w (u1.setCell ⟨q, 1, none⟩ (.slice (some ⟨g', 0, none⟩) ((withoutL ti.newest pk).length + 1) c')) ∧ (u1.setCell ⟨q, 1, none⟩ (.slice (some ⟨g', 0, none⟩) ((withoutL ti.newest pk).length + 1) c')).heap[bx]? = some (.cells #[.string (mkB pk), .string (mkB pv), .int .i64 ((ti.count : Int) + 1)] 68 (0, 0)) from
                            ⟨_, _, M8, fun g hg => hg.elim (HG.out g) (fun e => by
                              have e : some g' = some g := e
                              injection e with e; rw [← e]; exact .inr nX), U8, x8⟩)
                          have S7 : SameBut q X u1 := fun k hk _ => b7.block k hk
                          have S8 : SameBut q X (u1.setCell ⟨q, 1, none⟩ (.slice (some ⟨g', 0, none⟩) ((withoutL ti.newest pk).length + 1) c')) := fun k hk hne => (Below.heap_setCell _ _ _ _ hne).trans (b7.block k hk)
                          clear M7 M8 own7 U8 hown hg1 hloc e7 x8
                          (refine hK.out _ _ S7 (fun hHeld2 => ?_); clear hK K hHeld; have hHeld := hHeld2; clear hHeld2; try simp only [Act.put, List.getElem_toArray, List.getElem_cons_zero, List.getElem_cons_succ, List.setIfInBounds_toArray, List.set_cons_zero, List.set_cons_succ])
                          (refine wpAnyH_take (i := 13) (oi := _) (v := ?_) rfl (by kernel_rfl) (by kernel_rfl) (by kernel_rfl) (fun _ _ _ h => h) (Or.inl ⟨?_, ?_⟩) (by assumption) ?_; rotate_left; (focus (first | rfl | (simp [Region.wanted, yielded]; done))); (focus (intro w hSw; (try dsimp only at hSw); go_simp; all_goals (with_reducible rfl))); try simp only [Act.put, List.getElem_toArray, List.getElem_cons_zero, List.getElem_cons_succ, List.setIfInBounds_toArray, List.set_cons_zero, List.set_cons_succ])
                          (refine wpAnyH_take (i := 14) (oi := _) (v := ?_) rfl (by kernel_rfl) (by kernel_rfl) (by kernel_rfl) (fun _ _ _ h => h) (Or.inl ⟨?_, ?_⟩) (by assumption) ?_; rotate_left; (focus (first | rfl | (simp [Region.wanted, yielded]; done))); (focus (intro w hSw; (try dsimp only at hSw); go_simp; all_goals (with_reducible rfl))); try simp only [Act.put, List.getElem_toArray, List.getElem_cons_zero, List.getElem_cons_succ, List.setIfInBounds_toArray, List.set_cons_zero, List.set_cons_succ])
                          (refine wpAnyH_ready (rs := [15]) (by kernel_rfl) (by simp) ?_; refine AllReadyH.cons (o := _) rfl (fun K hK => ?_) AllReadyH.nil; go_simp)
                          (refine hK.out _ _ S8 (fun hHeld2 => ?_); clear hK K hHeld; have hHeld := hHeld2; clear hHeld2; try simp only [Act.put, List.getElem_toArray, List.getElem_cons_zero, List.getElem_cons_succ, List.setIfInBounds_toArray, List.set_cons_zero, List.set_cons_succ])
                          (refine wpAnyH_done (by kernel_rfl) ?_ _; refine NoPanic.normal ?_)
                          clear hHeld E0 F0 F1 F2
                          go_wp2_with fail
                          go_meet
                          exact FIN
                      focus
                        go_simp
                        have SA : SameBut q X ((X.alloc (.cells #[.string (mkB pk), .string (mkB pv), .int .i64 ((ti.count : Int) + 1)] 68)).drew) := fun k hk _ => alloc_old _ _ hk
                        (refine hK.out _ _ SA (fun hHeld2 => ?_); clear hK K hHeld; have hHeld := hHeld2; clear hHeld2; try simp only [Act.put, List.getElem_toArray, List.getElem_cons_zero, List.getElem_cons_succ, List.setIfInBounds_toArray, List.set_cons_zero, List.set_cons_succ])
                        (refine wpAnyH_ready (rs := [4]) (by kernel_rfl) (by simp) ?_; refine AllReadyH.cons (o := _) rfl (fun K hK => ?_) AllReadyH.nil; go_simp)
                        (refine hK.out _ _ SA (fun hHeld2 => ?_); clear hK K hHeld; have hHeld := hHeld2; clear hHeld2; try simp only [Act.put, List.getElem_toArray, List.getElem_cons_zero, List.getElem_cons_succ, List.setIfInBounds_toArray, List.set_cons_zero, List.set_cons_succ])
                        (refine wpAnyH_ready (rs := [9]) (by kernel_rfl) (by simp) ?_; refine AllReadyH.cons (o := _) rfl (fun K hK => ?_) AllReadyH.nil; go_simp)
                        have ba := (Below.refl X.heap.size X).alloc (Nat.le_refl _) (.cells #[.string (mkB pk), .string (mkB pv), .int .i64 ((ti.count : Int) + 1)] 68)
                        refine (WN.out _ (rd_drew (RNX.out.below ba))).mono ?_
                        rintro e w6 ⟨v1, rfl, o1, b6'⟩
                        have b6 : Below X.heap.size (X.alloc (.cells #[.string (mkB pk), .string (mkB pv), .int .i64 ((ti.count : Int) + 1)] 68)) w6 := (belowD b6').mono ba.size
                        have hba : w6.heap[X.heap.size]? = some (.cells #[.string (mkB pk), .string (mkB pv), .int .i64 ((ti.count : Int) + 1)] 68 (0, 0)) := ((belowD b6').block _ (by simp)).trans (heap_alloc_new X _)
                        have S6 : SameBut q X w6 := fun k hk _ => (ba.trans b6).block k hk
                        clear b6'
                        (refine hK.out _ _ S6 (fun hHeld2 => ?_); clear hK K hHeld; have hHeld := hHeld2; clear hHeld2; try simp only [Act.put, List.getElem_toArray, List.getElem_cons_zero, List.getElem_cons_succ, List.setIfInBounds_toArray, List.set_cons_zero, List.set_cons_succ])
                        have b2 := ba.trans b6
                        have LW : (withoutL ti.newest pk).length ≤ 100200 := Nat.le_trans (List.length_filter_le _ _) (by omega)
                        (refine wpAnyH_ready (rs := [12]) (by kernel_rfl) (by simp) ?_; refine AllReadyH.cons (o := _) rfl (fun K hK => ?_) AllReadyH.nil)
                        refine step_appG rfl (.tmp 126) (.tmp 128) 54 rfl Try.underlying54 info_ent rfl (by decide) _ (withoutL ti.newest pk).length (entsC (withoutL ti.newest pk)) _ _ rfl ?_ rfl rfl hba (own0 o1) (by omega) (by omega) ?_
                        · intro y hy
                          simp at hy
                          rcases hy with rfl | rfl | rfl <;> rfl
                        intro g' c' u1 hown hg1 hloc
                        have b7 : Below X.heap.size X u1 := ⟨hg1.os.trans b2.os, hg1.tape.trans b2.tape, hg1.output.trans b2.output, Nat.le_trans b2.size hg1.size, fun k hk => (hg1.block k (Nat.lt_of_lt_of_le hk b2.size) (fun e => by have := (o1.lt k e.symm).1; simp at this; omega)).trans (b2.block k hk)⟩
                        have e7 : (withoutL ti.newest pk ++ [(⟨pk, pv, ti.count + 1⟩ : Ent)]).length = (withoutL ti.newest pk).length + 1 := by simp
                        have eE : entsC [(⟨pk, pv, ti.count + 1⟩ : Ent)] = [.string (mkB pk), .string (mkB pv), .int .i64 ((ti.count : Int) + 1)] := by simp [entsC, entCells]
                        have own7 : u1.ownsRow 0 68 3 (.slice (some ⟨g', 0, none⟩) ((withoutL ti.newest pk).length + 1) c') (withoutL ti.newest pk ++ [(⟨pk, pv, ti.count + 1⟩ : Ent)]).length (entsC (withoutL ti.newest pk ++ [(⟨pk, pv, ti.count + 1⟩ : Ent)])) := by
                          rw [e7, entsC_app, eE]; exact hown
                        have M7 := M2H.out.below b7
                        have f1 := free_blk M7.blk 1
                        have y17 : u1.cell? ⟨q, 1, none⟩ = some vn' := M7.cells.2.1
                        have M8 := M7.newestSet own7
                        have nX : w.heap.size ≤ g' := by
                          have z5 := U2H.out.size
                          have z2 := b2.size
                          rcases hloc with e | e
                          · have := (o1.lt g' e).1; simp at this; omega
                          · exact Nat.le_trans z5 (Nat.le_trans z2 e)
                        have U8 : But G w (u1.setCell ⟨q, 1, none⟩ (.slice (some ⟨g', 0, none⟩) ((withoutL ti.newest pk).length + 1) c')) := (U2H.out.thenB (b7.mono U2H.out.size)).set (p := ⟨q, 1, none⟩) GQ _
                        have x8 : (u1.setCell ⟨q, 1, none⟩ (.slice (some ⟨g', 0, none⟩) ((withoutL ti.newest pk).length + 1) c')).heap[bx]? = some (.cells #[.string (mkB pk), .string (mkB pv), .int .i64 ((ti.count : Int) + 1)] 68 (0, 0)) := (Below.heap_setCell _ _ _ _ xbq).trans ((b7.block bx zbx).trans xb)
                        have FIN := Lib.hid (show ∃ (G9 : Nat → Prop) (vn9 : Value), RefMem (u1.setCell ⟨q, 1, none⟩ (.slice (some ⟨g', 0, none⟩) ((withoutL ti.newest pk).length + 1) c')) q G9 { ti with count := ti.count + 1, newest := withoutL ti.newest pk ++ [⟨pk, pv, ti.count + 1⟩] } vn9 vr vo' vk' vs' ∧ (∀ g, G9 g → G g ∨ w.heap.size ≤ g) ∧ But G w (u1.setCell ⟨q, 1, none⟩ (.slice (some ⟨g', 0, none⟩) ((withoutL ti.newest pk).length + 1) c')) ∧ (u1.setCell ⟨q, 1, none⟩ (.slice (some ⟨g', 0, none⟩) ((withoutL ti.newest pk).length + 1) c')).heap[bx]? = some (.cells #[.string (mkB pk), .string (mkB pv), .int .i64 ((ti.count : Int) + 1)] 68 (0, 0)) from
                          ⟨_, _, M8, fun g hg => hg.elim (HG.out g) (fun e => by
                            have e : some g' = some g := e
                            injection e with e; rw [← e]; exact .inr nX), U8, x8⟩)
                        have S7 : SameBut q X u1 := fun k hk _ => b7.block k hk
                        have S8 : SameBut q X (u1.setCell ⟨q, 1, none⟩ (.slice (some ⟨g', 0, none⟩) ((withoutL ti.newest pk).length + 1) c')) := fun k hk hne => (Below.heap_setCell _ _ _ _ hne).trans (b7.block k hk)
                        clear M7 M8 own7 U8 hown hg1 hloc e7 x8
                        (refine hK.out _ _ S7 (fun hHeld2 => ?_); clear hK K hHeld; have hHeld := hHeld2; clear hHeld2; try simp only [Act.put, List.getElem_toArray, List.getElem_cons_zero, List.getElem_cons_succ, List.setIfInBounds_toArray, List.set_cons_zero, List.set_cons_succ])
                        (refine wpAnyH_take (i := 13) (oi := _) (v := ?_) rfl (by kernel_rfl) (by kernel_rfl) (by kernel_rfl) (fun _ _ _ h => h) (Or.inl ⟨?_, ?_⟩) (by assumption) ?_; rotate_left; (focus (first | rfl | (simp [Region.wanted, yielded]; done))); (focus (intro w hSw; (try dsimp only at hSw); go_simp; all_goals (with_reducible rfl))); try simp only [Act.put, List.getElem_toArray, List.getElem_cons_zero, List.getElem_cons_succ, List.setIfInBounds_toArray, List.set_cons_zero, List.set_cons_succ])
                        (refine wpAnyH_take (i := 14) (oi := _) (v := ?_) rfl (by kernel_rfl) (by kernel_rfl) (by kernel_rfl) (fun _ _ _ h => h) (Or.inl ⟨?_, ?_⟩) (by assumption) ?_; rotate_left; (focus (first | rfl | (simp [Region.wanted, yielded]; done))); (focus (intro w hSw; (try dsimp only at hSw); go_simp; all_goals (with_reducible rfl))); try simp only [Act.put, List.getElem_toArray, List.getElem_cons_zero, List.getElem_cons_succ, List.setIfInBounds_toArray, List.set_cons_zero, List.set_cons_succ])
                        (refine wpAnyH_ready (rs := [15]) (by kernel_rfl) (by simp) ?_; refine AllReadyH.cons (o := _) rfl (fun K hK => ?_) AllReadyH.nil; go_simp)
                        (refine hK.out _ _ S8 (fun hHeld2 => ?_); clear hK K hHeld; have hHeld := hHeld2; clear hHeld2; try simp only [Act.put, List.getElem_toArray, List.getElem_cons_zero, List.getElem_cons_succ, List.setIfInBounds_toArray, List.set_cons_zero, List.set_cons_succ])
                        (refine wpAnyH_done (by kernel_rfl) ?_ _; refine NoPanic.normal ?_)
                        clear hHeld E0 F0 F1 F2
                        go_wp2_with fail
                        go_meet
                        exact FIN
                    · have g1 : ¬ (i : Int) < (nk : Int) := by omega
                      rw [List.take_of_length_le (by omega)] at hm
                      have VV : (rputs td ps).ver = t.ver := (rputs_ver ps td).trans TV.out
                      have y0 := hm.cells.1
                      have f0 := free_blk hm.blk 0
                      rw [VV] at y0
                      have ec : ((t.ver + 1 : Nat) : Int) = (t.ver : Int) + 1 := by omega
                      have M := hm.verSet (t.ver + 1)
                      rw [ec] at M
                      have w0' : IntKind.i64.wrap ((t.ver : Int) + 1) = (t.ver : Int) + 1 := IntWalk.i64_in _ (by omega)
                      have U0 : But G w (wr.setCell ⟨q, 0, none⟩ (.int .i64 ((t.ver : Int) + 1))) := hU.set (p := ⟨q, 0, none⟩) GQ _
                      have RP : Hid (RefPost w q G { rputs td ps with ver := t.ver + 1 } (wr.setCell ⟨q, 0, none⟩ (.int .i64 ((t.ver : Int) + 1)))) := Lib.hid ⟨G', ⟨_, _, _, _, _, M⟩, hG, U0⟩
                      have y0' : (wr.setCell ⟨q, 0, none⟩ (.int .i64 ((t.ver : Int) + 1))).cell? ⟨q, 0, none⟩ = some (.int .i64 ((t.ver : Int) + 1)) := M.cells.1.trans (by rw [← ec])
                      clear hm hG hU RW M U0 VV ec
                      go_wp2_with fail
                      go_ret2
                      exact ⟨by rw [RE3.out]; rfl, by rw [RE3.out]; exact RP.out⟩
end Go.Proofs.Ytfhgidbmeifflaa
