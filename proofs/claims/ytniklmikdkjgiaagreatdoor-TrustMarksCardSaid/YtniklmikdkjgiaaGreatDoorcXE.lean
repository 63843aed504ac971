import Derived.Test.YtniklmikdkjgiaaGreatDoorcXC
import Derived.Test.YtniklmikdkjgiaaGreatDoorcXD
import Derived.Test.YtniklmikdkjgiaaGreatDoorWD
set_option linter.all false
set_option maxHeartbeats 16000000
set_option maxRecDepth 100000
namespace Go.Proofs.YtniklmikdkjgiaaGreatDoor
open Go.RowKit Go.Lib
theorem infoB8 : (Tryz.prog.info? 5).map (fun i => (i.zero, i.size, i.bytes)) = some (some (.int .u8 0), 1, 1) := by kernel_rfl
theorem writeByte_any (B b : Nat) (bs : List Value) (c : UInt8) (w : World) (h : Lib.IsBuilder 146 5 B b bs w) (hlen : bs.length ≤ 140737488355000) (hBw : B ≤ w.heap.size) :
    Calls Tryz.prog 114 #[.pointer (some ⟨b, 0, none⟩), .int .u8 (c.toNat : Int)] w fun e w' => e = .returned .nilIface ∧ (Lib.BuilderAt 146 5 B b (.pointer (some ⟨b, 0, none⟩)) (bs ++ [.int .u8 (c.toNat : Int)]) w' ∧ Below B w w') := by
  have CC := Lib.hid (copyCheck_any B b bs w h)
  go_enter Tryz.func114, Tryz.ntmps114
  go_wp2_with fail
  refine CC.out.mono ?_
  rintro e w1 ⟨rfl, h1, hb1⟩
  obtain ⟨hB, v, hbk, hown, hne⟩ := h1
  have hlt : b < w1.heap.size := lt_of_block hbk
  have c0 : w1.cell? ⟨b, 0, none⟩ = some (.pointer (some ⟨b, 0, none⟩)) := by rw [Lib.cell_of_heap hbk]; rfl
  have c1 : w1.cell? ⟨b, 1, none⟩ = some v := by rw [Lib.cell_of_heap hbk]; rfl
  have hs1 : B ≤ w1.heap.size := by have := hb1.size; omega
  have HW := Lib.hid hown
  have HK := Lib.hid hbk
  clear hown hbk
  go_wp2_with (at_builtin; refine wpList_app1G rfl (.tmp 11) (.tmp 13) 137 rfl Tryz.underlying137 infoB8 rfl (by decide) B v _ _ w1 #[.int .u8 (c.toNat : Int)] rfl ?c1 rfl rfl rfl HW.out hs1 ?c2 ?c3 ?_)
  case c1 => rfl
  case c2 => omega
  case c3 => omega
  intro v' w2 hown' hbel hgrow
  have hK := HK.out
  have hb2 : w2.heap[b]? = some (.cells #[.pointer (some ⟨b, 0, none⟩), v] 146 (0, 0)) := by
    rw [hgrow.block b (by simp; omega) (fun e => hne e.symm)]
    exact (alloc_old _ _ hlt).trans hK
  have d0 : w2.cell? ⟨b, 0, none⟩ = some (.pointer (some ⟨b, 0, none⟩)) := by rw [Lib.cell_of_heap hb2]; rfl
  have d1 : w2.cell? ⟨b, 1, none⟩ = some v := by rw [Lib.cell_of_heap hb2]; rfl
  have f1 : w2.frozen? ⟨b, 1, none⟩ = false := Lib.frozen_of_heap hb2 1
  obtain ⟨ao, n', cap, rfl⟩ : ∃ ao n' cap, v' = .slice ao n' cap := by
    rcases hown'.2 with ⟨hv, _⟩ | ⟨g, cap, cur, hv, _⟩
    · exact ⟨_, _, _, hv⟩
    · exact ⟨_, _, _, hv⟩
  have FB := Lib.hid (Lib.BuilderAt.put (T := 146) (e := 5) hB hb2 (bs' := bs ++ [.int .u8 (c.toNat : Int)]) (by simpa using hown') (by decide))
  have BB : Hid (Below B w (w2.setCell ⟨b, 1, none⟩ (.slice ao n' cap))) := Lib.hid ((hb1.trans hbel).setCell (p := ⟨b, 1, none⟩) hB _)
  clear hown' hbel hgrow hK HW HK c0 c1 hb2
  go_wp2_with fail
  go_ret
  exact ⟨rfl, FB.out, BB.out⟩
def esc (c : UInt8) : Tx := if c = 10 then [92, 110] else if c = 34 ∨ c = 92 then [92, c] else [c]
def quoteF (s : Tx) : Tx := 34 :: (s.flatMap esc ++ [34])
theorem esc_len (c : UInt8) : (esc c).length ≤ 2 := by unfold esc; split; decide; split <;> simp
theorem escs_len (s : Tx) : (s.flatMap esc).length ≤ 2 * s.length := by
  induction s with
  | nil => simp
  | cons a s ih => rw [List.flatMap_cons, List.length_append, List.length_cons]; have := esc_len a; omega
theorem escs_take {s : Tx} {k : Nat} (h : k < s.length) : (s.take (k + 1)).flatMap esc = (s.take k).flatMap esc ++ esc s[k] := by
  rw [List.take_succ_eq_append_getElem h, List.flatMap_append, List.flatMap_singleton]
theorem bc_snoc (l : Tx) (c : UInt8) : Lib.byteCells l ++ [Value.int .u8 (c.toNat : Int)] = Lib.byteCells (l ++ [c]) := by simp [Lib.byteCells]
theorem quote_any (s : Tx) (w : World) (hs : s.length ≤ 1000000) :
    Calls Tryz.prog 175 #[.string (mkB s)] w fun e w' => e = .returned (.string (mkB (quoteF s))) ∧ Below w.heap.size w w' := by
  obtain ⟨b, hb⟩ : ∃ b, w.heap.size = b := ⟨_, rfl⟩
  obtain ⟨W, hW⟩ : ∃ W, W = w.alloc (.cells #[.pointer none, .slice none 0 0] 146) := ⟨_, rfl⟩
  have HB : Hid (Below w.heap.size w W) := Lib.hid (by rw [hW]; exact (Below.refl _ _).alloc (Nat.le_refl _) _)
  have HI : Hid (Lib.IsBuilder 146 5 b b (Lib.byteCells []) W) := Lib.hid (by rw [hW, ← hb]; exact Lib.fresh_isBuilder _ _ _)
  have ms := mkB_len s
  obtain ⟨n, hn⟩ : ∃ n, s.length = n := ⟨_, rfl⟩
  have HN := Lib.hid hn
  rw [hn] at hs ms
  clear hn
  go_enter Tryz.func175, Tryz.ntmps175
  go_upto_region 2 with fail
  rw [← hW]
  clear hW
  go_wp2_with fail
  have C34 := Lib.hid (writeByte_any b b _ 34 W HI.out (by simp [Lib.byteCells]) (by have := HB.out.size; omega))
  refine C34.out.mono ?_
  rintro e w1 ⟨rfl, h1, b1⟩
  have B1 := Lib.hid (HB.out.trans (by rw [hb]; exact b1))
  have I1 : Hid (Lib.IsBuilder 146 5 b b (Lib.byteCells ([34] ++ (s.take 0).flatMap esc)) w1) := Lib.hid (.inr (by simpa [Lib.byteCells] using h1))
  clear h1 b1 HB HI C34
  go_wp2_with fail
  go_loopw [4, 5, 9] (fun s4 s5 s9 wr => ∃ k : Nat, k ≤ n ∧ s9 = .int .i64 (k : Int) ∧ (∃ p, s4 = p) ∧ (∃ p, s5 = p) ∧ Hid (Lib.IsBuilder 146 5 b b (Lib.byteCells ([34] ++ (s.take k).flatMap esc)) wr) ∧ Hid (Below w.heap.size w wr)) (fun _ _ i _ => n - (RowKit.intOf i).toNat)
  case atStart => exact ⟨0, Nat.zero_le _, rfl, ⟨_, rfl⟩, ⟨_, rfl⟩, I1, B1⟩
  case round =>
    clear I1 B1
    obtain ⟨k, hk, rfl, ⟨p4, rfl⟩, ⟨p5, rfl⟩, IB, BL⟩ := hrel
    have SZ : Hid ((Lib.byteCells ([34] ++ (s.take k).flatMap esc)).length ≤ 2000001) := Lib.hid (by
      have := escs_len (s.take k)
      have h2 : (s.take k).length ≤ k := by rw [List.length_take]; omega
      simp only [Lib.byteCells, List.length_map, List.length_append, List.length_cons, List.length_nil]
      omega)
    have bz : b ≤ wr.heap.size := by rw [← hb]; exact BL.out.size
    by_cases hlt : k < n
    · have hkl : k < s.length := by have := HN.out; omega
      have d1 : (k : Int) < (n : Int) := by omega
      have d2 : (0 : Int) ≤ (k : Int) := by omega
      have k8 : IntKind.i64.wrap ((k : Int) + 1) = (k : Int) + 1 := IntWalk.i64_in _ (by omega)
      have tg := tl_get s hkl
      have TK : Hid ([34] ++ (s.take (k + 1)).flatMap esc = ([34] ++ (s.take k).flatMap esc) ++ esc s[k]) := Lib.hid (by rw [escs_take hkl, List.append_assoc])
      generalize s[k] = c at *
      generalize [34] ++ (s.take k).flatMap esc = L at *
      have EC : Hid (esc c = if c = 10 then [92, 110] else if c = 34 ∨ c = 92 then [92, c] else [c]) := Lib.hid rfl
      have NE : ∀ m : UInt8, c ≠ m → ((c.toNat : Int) == (m.toNat : Int)) = false := fun m h => by
        have : c.toNat ≠ m.toNat := fun e => h (UInt8.toNat_inj.1 e)
        simp; exact_mod_cast this
      by_cases c10 : c = 10
      · have E2 : esc c = [92, 110] := by rw [EC.out, if_pos c10]
        have e1 : ((c.toNat : Int) == 10) = true := by rw [c10]; rfl
        have WS := Lib.hid (writeString_any b b _ ⟨#[92, 110]⟩ wr IB.out (by have := SZ.out; show _ + 2 ≤ _; omega) bz)
        have TE := Lib.hid (TK.out.trans (by rw [E2]))
        clear c10 E2 EC NE TK
        go_wp2_with fail
        refine WS.out.mono ?_
        rintro e w2 ⟨rfl, h2, b2⟩
        have B2 := Lib.hid (BL.out.trans (by rw [hb]; exact b2))
        have I2 : Hid (Lib.IsBuilder 146 5 b b (Lib.byteCells ([34] ++ (s.take (k + 1)).flatMap esc)) w2) := Lib.hid (.inr (by rw [TE.out, byteCells_app]; exact h2))
        clear h2 b2 WS
        go_wp2_with fail
        exact ⟨⟨k + 1, by omega, by go_num, ⟨_, rfl⟩, ⟨_, rfl⟩, I2, B2⟩, by simp [RowKit.intOf]; omega⟩
      · have e1 : ((c.toNat : Int) == 10) = false := NE 10 c10
        by_cases c2 : c = 34 ∨ c = 92
        · have E2 : esc c = [92] ++ [c] := by rw [EC.out, if_neg c10, if_pos c2]; rfl
          have TE := Lib.hid (TK.out.trans (by rw [E2, ← List.append_assoc]))
          have WA := Lib.hid (writeByte_any b b _ 92 wr IB.out (by have := SZ.out; omega) bz)
          have SZ2 : Hid ((Lib.byteCells (L ++ [92])).length ≤ 2000002) := Lib.hid (by have := SZ.out; simp only [Lib.byteCells, List.length_map, List.length_append, List.length_cons, List.length_nil] at this ⊢; omega)
          have WB : Hid (∀ u, Lib.IsBuilder 146 5 b b (Lib.byteCells (L ++ [92])) u → b ≤ u.heap.size → Calls Tryz.prog 114 #[.pointer (some ⟨b, 0, none⟩), .int .u8 (c.toNat : Int)] u fun e w' => e = .returned .nilIface ∧ (Lib.BuilderAt 146 5 b b (.pointer (some ⟨b, 0, none⟩)) (Lib.byteCells (L ++ [92]) ++ [.int .u8 (c.toNat : Int)]) w' ∧ Below b u w')) := Lib.hid (fun u hu hz => writeByte_any b b _ c u hu (by have := SZ2.out; omega) hz)
          rcases c2 with c2 | c2
          all_goals
            have e2 : ((c.toNat : Int) == (c.toNat : Int)) = true := by simp
            first
            | (have e3 : ((c.toNat : Int) == 34) = true := by rw [c2]; rfl)
            | (have e4 : ((c.toNat : Int) == 34) = false := by rw [c2]; rfl
               have e5 : ((c.toNat : Int) == 92) = true := by rw [c2]; rfl)
            clear c2 c10 E2 EC NE TK e2
            go_wp2_with fail
            refine WA.out.mono ?_
            rintro e w2 ⟨rfl, h2, b2⟩
            have B2 := Lib.hid (BL.out.trans (by rw [hb]; exact b2))
            have I2 : Hid (Lib.IsBuilder 146 5 b b (Lib.byteCells (L ++ [92])) w2) := Lib.hid (.inr (by rw [← bc_snoc]; exact h2))
            clear h2 b2 WA
            go_wp2_with fail
            refine (WB.out _ I2.out (by rw [← hb]; exact B2.out.size)).mono ?_
            rintro e w3 ⟨rfl, h3, b3⟩
            have B3 := Lib.hid (B2.out.trans (by rw [hb]; exact b3))
            have I3 : Hid (Lib.IsBuilder 146 5 b b (Lib.byteCells ([34] ++ (s.take (k + 1)).flatMap esc)) w3) := Lib.hid (.inr (by rw [TE.out, ← bc_snoc]; exact h3))
            clear h3 b3 WB
            go_wp2_with fail
            exact ⟨⟨k + 1, by omega, by go_num, ⟨_, rfl⟩, ⟨_, rfl⟩, I3, B3⟩, by simp [RowKit.intOf]; omega⟩
        · have c3 : c ≠ 34 := fun e => c2 (.inl e)
          have c4 : c ≠ 92 := fun e => c2 (.inr e)
          have E2 : esc c = [c] := by rw [EC.out, if_neg c10, if_neg c2]
          have TE := Lib.hid (TK.out.trans (by rw [E2]))
          have e2 : ((c.toNat : Int) == 34) = false := NE 34 c3
          have e3 : ((c.toNat : Int) == 92) = false := NE 92 c4
          have WA := Lib.hid (writeByte_any b b _ c wr IB.out (by have := SZ.out; omega) bz)
          clear c2 c3 c4 c10 E2 EC NE TK
          go_wp2_with fail
          refine WA.out.mono ?_
          rintro e w2 ⟨rfl, h2, b2⟩
          have B2 := Lib.hid (BL.out.trans (by rw [hb]; exact b2))
          have I2 : Hid (Lib.IsBuilder 146 5 b b (Lib.byteCells ([34] ++ (s.take (k + 1)).flatMap esc)) w2) := Lib.hid (.inr (by rw [TE.out, ← bc_snoc]; exact h2))
          clear h2 b2 WA
          go_wp2_with fail
          exact ⟨⟨k + 1, by omega, by go_num, ⟨_, rfl⟩, ⟨_, rfl⟩, I2, B2⟩, by simp [RowKit.intOf]; omega⟩
    · obtain rfl : k = n := by omega
      have dk : decide ((k : Int) < (k : Int)) = false := by simp
      have TT : s.take k = s := List.take_of_length_le (by rw [HN.out]; exact Nat.le_refl _)
      rw [TT] at IB SZ
      have WA := Lib.hid (writeByte_any b b _ 34 wr IB.out (by have := SZ.out; omega) bz)
      clear hlt TT
      go_wp2_with fail
      refine WA.out.mono ?_
      rintro e w2 ⟨rfl, h2, b2⟩
      have B2 := Lib.hid (BL.out.trans (by rw [hb]; exact b2))
      have I2 : Lib.IsBuilder 146 5 b b (Lib.byteCells (quoteF s)) w2 := .inr (by unfold quoteF; rw [bc_snoc] at h2; exact h2)
      have ST := Lib.hid (Tryz.Builder_String_any b b _ _ I2 (by rw [← hb]; exact B2.out.size))
      clear h2 b2 WA I2
      go_wp2_with fail
      refine ST.out.mono ?_
      rintro e w3 ⟨rfl, b3⟩
      have B3 := Lib.hid (B2.out.trans (by rw [hb]; exact b3))
      clear b3 ST
      go_wp2_with fail
      go_ret
      exact ⟨rfl, B3.out⟩
end Go.Proofs.YtniklmikdkjgiaaGreatDoor
namespace Go.Proofs.YtniklmikdkjgiaaGreatDoor
open Go.RowKit
def joinL (L : List Tx) (sep : Tx) : Tx := Lib.join L sep
theorem joinT_any (A : Option Addr) (n c : Nat) (L : List Tx) (sep : Tx) (w : World) (hn : n = L.length) (h : Rd w A (strsC L)) (hc : L.length ≤ c) (hN : L.length ≤ 1000000) (hs : (joinL L sep).length ≤ 140737488355328) :
    Calls Tryz.prog 177 #[.slice A n c, .string (mkB sep)] w fun e w' => e = .returned (.string (mkB (joinL L sep))) ∧ Below w.heap.size w w' := by
  subst hn
  have el : (L.map mkB).map (·.data.toList) = L := by
    rw [List.map_map]
    conv => rhs; rw [← List.map_id L]
    exact List.map_congr_left fun s _ => mkB_list s
  rcases Nat.eq_zero_or_pos L.length with h0 | hp
  · have e0 : L = [] := List.eq_nil_of_length_eq_zero h0
    subst e0
    refine (Tryz.strings_Join_none A c (mkB sep) w).mono ?_
    rintro e w' ⟨rfl, rfl⟩
    exact ⟨rfl, Below.refl _ _⟩
  · obtain ⟨b, off, rfl, hb, -⟩ := strs_at h hp
    have := Tryz.strings_Join b off c (L.map mkB) (mkB sep) w (fun j x hx => by
      have hj : j < L.length := by
        rcases Nat.lt_or_ge j L.length with h1 | h1
        · exact h1
        · rw [List.getElem?_eq_none (by rw [List.length_map]; exact h1)] at hx; cases hx
      obtain ⟨b', off', e', -, hc'⟩ := strs_at h hj
      obtain ⟨rfl, rfl⟩ : b = b' ∧ off = off' := by injection e' with e'; injection e' with e1 e2; exact ⟨e1, e2⟩
      rw [List.getElem?_map, List.getElem?_eq_getElem hj] at hx
      injection hx with hx
      rw [← hx]; exact hc') hb (by rw [List.length_map]; omega) (by rw [List.length_map]; exact hc) (by rw [el, mkB_list]; exact hs)
    rw [el, mkB_list, List.length_map] at this
    exact this
end Go.Proofs.YtniklmikdkjgiaaGreatDoor
namespace Go.Proofs.YtniklmikdkjgiaaGreatDoor
open Go.RowKit
theorem info_strG : (Tryz.prog.info? 9).map (fun i => (i.zero, i.size, i.bytes)) = some (some (.string .empty), 1, 16) := by kernel_rfl
theorem own_sameG {w w' : World} {B size n : Nat} {e : TypeId} {v : Value} {X : List Value} (h : w.ownsRow B e size v n X) (hb : ∀ g, v.ownBlock = some g → w'.heap[g]? = w.heap[g]?) : w'.ownsRow B e size v n X := by
  obtain ⟨h1, h2⟩ := h
  refine ⟨h1, ?_⟩
  rcases h2 with h2 | ⟨g, cap, cur, e1, e2, e3, rest⟩
  · exact .inl h2
  · exact .inr ⟨g, cap, cur, e1, e2, (hb g (by rw [e1]; rfl)).trans e3, rest⟩
theorem own_rdG {w : World} {base : Nat} {e : TypeId} {size n c : Nat} {A : Option Addr} {xs : List Value} (h : w.ownsRow base e size (.slice A n c) n xs) : Rd w A xs := by
  rcases h.2 with ⟨e1, e2⟩ | ⟨g', cap, cur, hv, _, hg, _, _, _, ht⟩
  · have : xs = [] := List.eq_nil_of_length_eq_zero (by rw [h.1, e2]; simp)
    rw [this]; exact Rd.nil_ _ _
  · injection hv with hA _ _
    rw [hA]
    exact Rd.of_row hg (by rw [← ht]; exact List.take_prefix _ _)
theorem own_slG {w : World} {B size n : Nat} {e : TypeId} {v : Value} {X : List Value} (h : w.ownsRow B e size v n X) : ∃ A c, v = .slice A n c ∧ Rd w A X ∧ n ≤ c := by
  rcases h.2 with ⟨rfl, rfl⟩ | ⟨g, cap, cur, rfl, hgb, hg, h1, h2, h3, ht⟩
  · exact ⟨none, 0, rfl, own_rdG h, Nat.le_refl _⟩
  · exact ⟨_, _, rfl, own_rdG h, by omega⟩
theorem mkB_app (a b : Tx) : mkB a ++ mkB b = mkB (a ++ b) := by apply ByteArray.ext; simp [mkB]
theorem add_str (a b : Tx) (h : a.length + b.length ≤ 1000000) (W : World) : (Op.stringOp .add (mkB a) (mkB b)).run Tryz.prog W = .ok (.string (mkB (a ++ b))) W := by
  rw [run_string_add_sum W _ _ (by rw [mkB_len, mkB_len]; omega)]
  exact congrArg (fun b => Result.ok (Value.string b) W) (mkB_app a b)
theorem step_app1S {P : Program} {ops : Array Oper} {o : Oper} {a : Act} {K : Act → World → Prop} {Q : Exit → Act → World → Prop} {E : Prop} (hgd : o.guard = none) (s x : Operand) (t : TypeId)
    (ho : o.op = .call { callee := .builtin .append, args := #[s, x], argTypes := #[t, t] }) {e : TypeId} {z : Value} {bytes : Nat}
    (ht : P.underlying t = some (.slice e)) (hinfo : (P.info? e).map (fun i => (i.zero, i.size, i.bytes)) = some (some z, 1, bytes)) (hzs : z.cells.size = 1)
    (base : Nat) (v : Value) (n : Nat) (xs : List Value) (w0 : World) (y : Value) (h1 : y.oneCell' = true)
    (hs : a.eval s = v) {g0 : Nat} (hx : a.eval x = .slice (some ⟨g0, 0, none⟩) 1 1) (hg0 : w0.heap.size = g0) (hown : w0.ownsRow base e 1 v n xs) (hb : base ≤ w0.heap.size)
    (hbytes : (n + 1) * bytes ≤ 140737488355328) (hmax : n + 1 ≤ 9223372036854775807)
    (h : ∀ A c w', w'.ownsRow base e 1 (.slice A (n + 1) c) (n + 1) (xs ++ [y]) → (w0.alloc (.cells #[y] e)).grownBy w' v.ownBlock → Below base w0 w' → K (a.put o.dst (.slice A (n + 1) c)) w') :
    if Region.wanted o (yielded ops a.tmps) = true then Oper.wp P o a (w0.alloc (.cells #[y] e)) K Q else E :=
  step_appB hgd s x t ho ht hinfo hzs (by omega) base v n 1 xs w0 #[y] rfl (by intro u hu; rw [List.mem_singleton.1 hu]; exact h1) hs hx hg0 hown hb hbytes hmax (by omega) (fun A c w' a1 a2 a3 => h A c w' a1 a3 a2)
def WordsAt (B bw : Nat) (L : List Tx) (w : World) : Prop :=
  ∃ v, w.heap[bw]? = some (.cells #[v] 35 (0, 0)) ∧ w.ownsRow B 9 1 v L.length (strsC L)
theorem WordsAt.lt {B bw : Nat} {L : List Tx} {w : World} (h : WordsAt B bw L w) : bw < w.heap.size := by obtain ⟨v, h, -⟩ := h; exact lt_of_block h
theorem WordsAt.below {B bw : Nat} {L : List Tx} {w w' : World} (h : WordsAt B bw L w) (k : Below w.heap.size w w') : WordsAt B bw L w' := by
  obtain ⟨v, h1, h2⟩ := h
  exact ⟨v, (k.block bw (lt_of_block h1)).trans h1, own_below h2 k (Nat.le_refl _)⟩
def Stays (b : Nat) (o : Obj) (u : World) : Prop := u.heap[b]? = some o
theorem Stays.drew {b : Nat} {o : Obj} {u : World} (h : Stays b o u) : Stays b o u.drew := h
theorem Stays.below {b : Nat} {o : Obj} {u u' : World} (h : Stays b o u) (k : Below u.heap.size u u') : Stays b o u' := (k.block b (lt_of_block (o := o) h)).trans h
theorem quoteF_len (s : Tx) : (quoteF s).length ≤ 2 * s.length + 2 := by
  have := escs_len s
  unfold quoteF
  rw [List.length_cons, List.length_append, List.length_singleton]; omega
def tagW (k v : Tx) : Tx := k ++ [61] ++ quoteF v
theorem textadd_any (B bw : Nat) (L : List Tx) (k v : Tx) (w : World) (h : WordsAt B bw L w) (hB : B ≤ bw) (hk : k.length ≤ 1000) (hv : v.length ≤ 1000) (hL : L.length ≤ 1000) :
    Calls Tryz.prog 220 #[.agg #[.string (mkB k), .string (mkB v)], .pointer (some ⟨bw, 0, none⟩)] w fun e w' => e = .returned (.tuple #[]) ∧ WordsAt B bw (L ++ [tagW k v]) w' ∧ Below B w w' := by
  have a1 := add_str k [61] (by simp; omega)
  have a2 := add_str (k ++ [61]) (quoteF v) (by have := quoteF_len v; rw [List.length_append, List.length_singleton]; omega)
  have e61 : (ByteArray.mk #[61]) = mkB [61] := rfl
  have QA := Lib.hid (fun u => quote_any v u (by omega))
  obtain ⟨y, hy⟩ : ∃ y, tagW k v = y := ⟨_, rfl⟩
  have hy2 : k ++ [61] ++ quoteF v = y := hy
  rw [hy]
  rw [hy2] at a2
  generalize quoteF v = q at *
  clear hy hy2
  obtain ⟨W, hW⟩ : ∃ W, W = w.alloc (.cells #[.string (mkB k), .string (mkB v)] 181) := ⟨_, rfl⟩
  obtain ⟨bx, hbx⟩ : ∃ bx, w.heap.size = bx := ⟨_, rfl⟩
  have BX : Stays bx (.cells #[.string (mkB k), .string (mkB v)] 181 (0, 0)) W := by rw [hW, ← hbx]; exact heap_alloc_new w _
  have ltw := h.lt
  have hBz : B ≤ w.heap.size := by omega
  have BW : Hid (Below B w W.drew) := Lib.hid (by rw [hW]; exact ((Below.refl _ _).alloc (by omega) _).drew)
  have HW : Hid (WordsAt B bw L W.drew) := Lib.hid (by rw [hW]; exact h.below ((Below.refl _ _).alloc (Nat.le_refl _) _).drew)
  have K0 : ∀ u, Stays bx (.cells #[.string (mkB k), .string (mkB v)] 181 (0, 0)) u → u.cell? ⟨bx, 0, none⟩ = some (.string (mkB k)) := fun u hu => cell_of_row u bx 0 _ _ _ hu
  have K1 : ∀ u, Stays bx (.cells #[.string (mkB k), .string (mkB v)] 181 (0, 0)) u → u.cell? ⟨bx, 1, none⟩ = some (.string (mkB v)) := fun u hu => cell_of_row u bx 1 _ _ _ hu
  have bne : bw ≠ bx := by omega
  have HBX := Lib.hid BX
  clear h ltw
  go_enter Tryz.func220, Tryz.ntmps220
  go_upto_region 1 with fail
  rw [← hW]
  try rw [hbx]
  try rw [e61]
  clear hW hbx BX
  (refine wp_region_noPanic ?_; refine wp_region_held_drew (S := (Stays bx (.cells #[.string (mkB k), .string (mkB v)] 181 (0, 0)))) (by kernel_rfl) ?_ (fun hHeld => ?_); exact Stays.drew HBX.out)
  (refine tkW 1 ?_; try simp only [gmS])
  (refine tkW 2 ?_; try simp only [gmS])
  (refine tkW 3 ?_; try simp only [gmS])
  (refine tkW 4 ?_; try simp only [gmS])
  (refine tkW 5 ?_; try simp only [gmS])
  (refine wpAnyH_ready (rs := [0, 6]) (by kernel_rfl) (by simp) ?_; refine AllReadyH.cons (o := _) rfl (fun K hK => ?_) (AllReadyH.cons (o := _) rfl (fun K hK => ?_) AllReadyH.nil))
  · skip
    obtain ⟨v0, hb0, ho0⟩ := HW.out
    have E0 := Lib.hid hb0
    have O0 := Lib.hid ho0
    have c0 := cell_of_row _ bw 0 _ _ _ hb0
    simp at c0
    clear hb0 ho0
    go_simp
    (refine hK.out _ _ hHeld (fun hHeld2 => ?_); clear hK K hHeld; have hHeld := hHeld2; clear hHeld2; try simp only [gmS])
    (refine rdW 6 (fun K hK => ?_))
    go_simp
    refine (QA.out _).mono ?_
    rintro e u1 ⟨rfl, d1⟩
    have D1 := Lib.hid d1
    have E0 := Lib.hid ((D1.out.block bw (lt_of_block E0.out)).trans E0.out)
    have O0 := Lib.hid (own_below O0.out D1.out (Nat.le_refl _))
    have BW := Lib.hid (Below.trans BW.out (D1.out.mono (Nat.le_trans hBz BW.out.size)))
    clear d1
    (refine hK.out _ _ (Stays.below hHeld D1.out) (fun hHeld2 => ?_); clear hK K hHeld; have hHeld := hHeld2; clear hHeld2; try simp only [gmS])
    (refine tkW 7 ?_; try simp only [gmS])
    (refine rdW 8 (fun K hK => ?_))
    go_simp
    (refine hK.out _ _ (Stays.below hHeld ((Below.refl _ _).alloc (Nat.le_refl _) _)) (fun hHeld2 => ?_); clear hK K hHeld; have hHeld := hHeld2; clear hHeld2; try simp only [gmS])
    (refine rdW 9 (fun K hK => ?_))
    obtain ⟨A0, c0v, rfl⟩ : ∃ A0 c0v, v0 = .slice A0 L.length c0v := by
      rcases O0.out.2 with ⟨hv, h0⟩ | ⟨g, cap, cur, hv, _⟩
      · exact ⟨none, 0, by rw [hv, h0]⟩
      · exact ⟨_, _, hv⟩
    refine step_app1S rfl (.tmp 3) (.tmp 11) 35 rfl Tryz.underlying35 info_strG rfl B (.slice A0 L.length c0v) L.length (strsC L) u1 (.string (mkB y)) rfl rfl rfl rfl O0.out (Nat.le_trans hBz BW.out.size) (by omega) (by omega) ?_
    intro A9 c9 u2 ho9 hg9 hb9
    have O2 := Lib.hid ho9
    have B2 := Lib.hid (BW.out.trans hb9)
    have E2 : Hid (u2.heap[bw]? = some (.cells #[.slice A0 L.length c0v] 35 (0, 0))) := Lib.hid (blk_keep hg9 (O0.out.alloc _) ((alloc_old _ _ (lt_of_block E0.out)).trans E0.out) (by decide))
    have X2 : Stays bx (.cells #[.string (mkB k), .string (mkB v)] 181 (0, 0)) u2 := blk_keep hg9 (O0.out.alloc _) hHeld (by decide)
    clear ho9 hg9 hb9
    (refine hK.out _ _ X2 (fun hHeld2 => ?_); clear hK K hHeld; have hHeld := hHeld2; clear hHeld2; try simp only [gmS])
    (refine rdW 10 (fun K hK => ?_))
    have f2 := free_blk E2.out 0
    have c2 := cell_of_row u2 bw 0 _ _ _ E2.out
    simp at c2
    go_simp
    have ne2 := Lib.ownBlock_ne O2.out E2.out (by decide)
    have FIN := Lib.hid (And.intro (show WordsAt B bw (L ++ [y]) (u2.setCell ⟨bw, 0, none⟩ (.slice A9 (L.length + 1) c9)) from ⟨_, one_setCell E2.out, by rw [List.length_append, List.length_singleton, show strsC (L ++ [y]) = strsC L ++ [.string (mkB y)] from List.map_append ..]; exact own_sameG O2.out (fun g hg => Below.heap_setCell _ _ _ _ (fun e => ne2 (hg.trans (congrArg some e))))⟩) (B2.out.setCell (p := ⟨bw, 0, none⟩) hB (.slice A9 (L.length + 1) c9)))
    (refine hK.out _ _ (show Stays bx _ _ from (Below.heap_setCell u2 ⟨bw, 0, none⟩ (.slice A9 (L.length + 1) c9) bx (by exact bne.symm)).trans X2) (fun hHeld2 => ?_); clear hK K hHeld; have hHeld := hHeld2; clear hHeld2; try simp only [gmS])
    (refine wpAnyH_done (by kernel_rfl) ?_ _; refine NoPanic.normal ?_)
    go_wp2_with fail
    go_end0
    exact ⟨rfl, FIN.out.1, FIN.out.2⟩
  · skip
    go_simp
    refine (QA.out _).mono ?_
    rintro e u1 ⟨rfl, d1⟩
    have D1 := Lib.hid d1
    have HW := Lib.hid (WordsAt.below HW.out (by first | exact D1.out | exact D1.out))
    have BW := Lib.hid (Below.trans BW.out (D1.out.mono (Nat.le_trans hBz BW.out.size)))
    clear d1
    (refine hK.out _ _ (Stays.below hHeld D1.out) (fun hHeld2 => ?_); clear hK K hHeld; have hHeld := hHeld2; clear hHeld2; try simp only [gmS])
    (refine tkW 7 ?_; try simp only [gmS])
    (refine wpAnyH_ready (rs := [0, 8]) (by kernel_rfl) (by simp) ?_; refine AllReadyH.cons (o := _) rfl (fun K hK => ?_) (AllReadyH.cons (o := _) rfl (fun K hK => ?_) AllReadyH.nil))
    · skip
      obtain ⟨v0, hb0, ho0⟩ := HW.out
      have E0 := Lib.hid hb0
      have O0 := Lib.hid ho0
      have c0 := cell_of_row _ bw 0 _ _ _ hb0
      simp at c0
      clear hb0 ho0
      go_simp
      (refine hK.out _ _ hHeld (fun hHeld2 => ?_); clear hK K hHeld; have hHeld := hHeld2; clear hHeld2; try simp only [gmS])
      (refine rdW 8 (fun K hK => ?_))
      go_simp
      (refine hK.out _ _ (Stays.below hHeld ((Below.refl _ _).alloc (Nat.le_refl _) _)) (fun hHeld2 => ?_); clear hK K hHeld; have hHeld := hHeld2; clear hHeld2; try simp only [gmS])
      (refine rdW 9 (fun K hK => ?_))
      obtain ⟨A0, c0v, rfl⟩ : ∃ A0 c0v, v0 = .slice A0 L.length c0v := by
        rcases O0.out.2 with ⟨hv, h0⟩ | ⟨g, cap, cur, hv, _⟩
        · exact ⟨none, 0, by rw [hv, h0]⟩
        · exact ⟨_, _, hv⟩
      refine step_app1S rfl (.tmp 3) (.tmp 11) 35 rfl Tryz.underlying35 info_strG rfl B (.slice A0 L.length c0v) L.length (strsC L) u1 (.string (mkB y)) rfl rfl rfl rfl O0.out (Nat.le_trans hBz BW.out.size) (by omega) (by omega) ?_
      intro A9 c9 u2 ho9 hg9 hb9
      have O2 := Lib.hid ho9
      have B2 := Lib.hid (BW.out.trans hb9)
      have E2 : Hid (u2.heap[bw]? = some (.cells #[.slice A0 L.length c0v] 35 (0, 0))) := Lib.hid (blk_keep hg9 (O0.out.alloc _) ((alloc_old _ _ (lt_of_block E0.out)).trans E0.out) (by decide))
      have X2 : Stays bx (.cells #[.string (mkB k), .string (mkB v)] 181 (0, 0)) u2 := blk_keep hg9 (O0.out.alloc _) hHeld (by decide)
      clear ho9 hg9 hb9
      (refine hK.out _ _ X2 (fun hHeld2 => ?_); clear hK K hHeld; have hHeld := hHeld2; clear hHeld2; try simp only [gmS])
      (refine rdW 10 (fun K hK => ?_))
      have f2 := free_blk E2.out 0
      have c2 := cell_of_row u2 bw 0 _ _ _ E2.out
      simp at c2
      go_simp
      have ne2 := Lib.ownBlock_ne O2.out E2.out (by decide)
      have FIN := Lib.hid (And.intro (show WordsAt B bw (L ++ [y]) (u2.setCell ⟨bw, 0, none⟩ (.slice A9 (L.length + 1) c9)) from ⟨_, one_setCell E2.out, by rw [List.length_append, List.length_singleton, show strsC (L ++ [y]) = strsC L ++ [.string (mkB y)] from List.map_append ..]; exact own_sameG O2.out (fun g hg => Below.heap_setCell _ _ _ _ (fun e => ne2 (hg.trans (congrArg some e))))⟩) (B2.out.setCell (p := ⟨bw, 0, none⟩) hB (.slice A9 (L.length + 1) c9)))
      (refine hK.out _ _ (show Stays bx _ _ from (Below.heap_setCell u2 ⟨bw, 0, none⟩ (.slice A9 (L.length + 1) c9) bx (by exact bne.symm)).trans X2) (fun hHeld2 => ?_); clear hK K hHeld; have hHeld := hHeld2; clear hHeld2; try simp only [gmS])
      (refine wpAnyH_done (by kernel_rfl) ?_ _; refine NoPanic.normal ?_)
      go_wp2_with fail
      go_end0
      exact ⟨rfl, FIN.out.1, FIN.out.2⟩
    · skip
      go_simp
      (refine hK.out _ _ (Stays.below hHeld ((Below.refl _ _).alloc (Nat.le_refl _) _)) (fun hHeld2 => ?_); clear hK K hHeld; have hHeld := hHeld2; clear hHeld2; try simp only [gmS])
      (refine rdW 0 (fun K hK => ?_))
      obtain ⟨v0, hb0, ho0⟩ := HW.out
      have E0 := Lib.hid hb0
      have O0 := Lib.hid ho0
      have c0 := cell_of_row (u1.alloc (.cells #[.string (mkB y)] 9)) bw 0 _ _ _ ((alloc_old _ _ (lt_of_block hb0)).trans hb0)
      simp at c0
      clear hb0 ho0
      go_simp
      (refine hK.out _ _ hHeld (fun hHeld2 => ?_); clear hK K hHeld; have hHeld := hHeld2; clear hHeld2; try simp only [gmS])
      (refine rdW 9 (fun K hK => ?_))
      obtain ⟨A0, c0v, rfl⟩ : ∃ A0 c0v, v0 = .slice A0 L.length c0v := by
        rcases O0.out.2 with ⟨hv, h0⟩ | ⟨g, cap, cur, hv, _⟩
        · exact ⟨none, 0, by rw [hv, h0]⟩
        · exact ⟨_, _, hv⟩
      refine step_app1S rfl (.tmp 3) (.tmp 11) 35 rfl Tryz.underlying35 info_strG rfl B (.slice A0 L.length c0v) L.length (strsC L) u1 (.string (mkB y)) rfl rfl rfl rfl O0.out (Nat.le_trans hBz BW.out.size) (by omega) (by omega) ?_
      intro A9 c9 u2 ho9 hg9 hb9
      have O2 := Lib.hid ho9
      have B2 := Lib.hid (BW.out.trans hb9)
      have E2 : Hid (u2.heap[bw]? = some (.cells #[.slice A0 L.length c0v] 35 (0, 0))) := Lib.hid (blk_keep hg9 (O0.out.alloc _) ((alloc_old _ _ (lt_of_block E0.out)).trans E0.out) (by decide))
      have X2 : Stays bx (.cells #[.string (mkB k), .string (mkB v)] 181 (0, 0)) u2 := blk_keep hg9 (O0.out.alloc _) hHeld (by decide)
      clear ho9 hg9 hb9
      (refine hK.out _ _ X2 (fun hHeld2 => ?_); clear hK K hHeld; have hHeld := hHeld2; clear hHeld2; try simp only [gmS])
      (refine rdW 10 (fun K hK => ?_))
      have f2 := free_blk E2.out 0
      have c2 := cell_of_row u2 bw 0 _ _ _ E2.out
      simp at c2
      go_simp
      have ne2 := Lib.ownBlock_ne O2.out E2.out (by decide)
      have FIN := Lib.hid (And.intro (show WordsAt B bw (L ++ [y]) (u2.setCell ⟨bw, 0, none⟩ (.slice A9 (L.length + 1) c9)) from ⟨_, one_setCell E2.out, by rw [List.length_append, List.length_singleton, show strsC (L ++ [y]) = strsC L ++ [.string (mkB y)] from List.map_append ..]; exact own_sameG O2.out (fun g hg => Below.heap_setCell _ _ _ _ (fun e => ne2 (hg.trans (congrArg some e))))⟩) (B2.out.setCell (p := ⟨bw, 0, none⟩) hB (.slice A9 (L.length + 1) c9)))
      (refine hK.out _ _ (show Stays bx _ _ from (Below.heap_setCell u2 ⟨bw, 0, none⟩ (.slice A9 (L.length + 1) c9) bx (by exact bne.symm)).trans X2) (fun hHeld2 => ?_); clear hK K hHeld; have hHeld := hHeld2; clear hHeld2; try simp only [gmS])
      (refine wpAnyH_done (by kernel_rfl) ?_ _; refine NoPanic.normal ?_)
      go_wp2_with fail
      go_end0
      exact ⟨rfl, FIN.out.1, FIN.out.2⟩
theorem join_len (sep : Tx) (M : Nat) : ∀ (L : List Tx), (∀ t ∈ L, t.length ≤ M) → (joinL L sep).length ≤ L.length * (M + sep.length)
  | [], _ => by simp [joinL, Lib.join]
  | [a], h => by
    have := h a (by simp)
    simp [joinL, Lib.join]; omega
  | a :: b :: L, h => by
    have h1 := h a (by simp)
    have h2 := join_len sep M (b :: L) (fun t ht => h t (List.mem_cons_of_mem _ ht))
    have e : joinL (a :: b :: L) sep = a ++ sep ++ joinL (b :: L) sep := by simp [joinL, Lib.join]
    rw [e, List.length_append, List.length_append]
    simp only [List.length_cons] at h2 ⊢
    have : (L.length + 1 + 1) * (M + sep.length) = (L.length + 1) * (M + sep.length) + (M + sep.length) := Nat.succ_mul _ _
    omega
theorem nameB_len : ∀ {s : Tx}, At.nameB s = true → s.length ≤ 24
  | [], _ => by simp
  | c :: r, h => by
    simp only [At.nameB, Bool.and_eq_true, decide_eq_true_eq] at h
    simpa using h.2
theorem tagsFrom_small : ∀ (l : List (Tx × Tx)) (last : Tx), At.tagsFrom last l = true → ∀ t ∈ l, t.1.length ≤ 24 ∧ t.2.length ≤ 200
  | [], _, _, t, h => by cases h
  | x :: l, last, h, t, ht => by
    simp only [At.tagsFrom, Bool.and_eq_true, decide_eq_true_eq] at h
    rcases List.mem_cons.1 ht with rfl | ht
    · exact ⟨nameB_len h.1.1.1.1, h.1.2⟩
    · exact tagsFrom_small l x.1 h.2 t ht
theorem tags_small {l : List (Tx × Tx)} (h : At.tagsB l = true) : l.length ≤ 60 ∧ ∀ t ∈ l, t.1.length ≤ 24 ∧ t.2.length ≤ 200 := by
  unfold At.tagsB at h
  rw [Bool.and_eq_true, decide_eq_true_eq] at h
  exact ⟨h.2, tagsFrom_small l [] h.1⟩
def wordsL (l : List (Tx × Tx)) : List Tx := l.map fun t => tagW t.1 t.2
theorem tagW_len {k v : Tx} (hk : k.length ≤ 24) (hv : v.length ≤ 200) : (tagW k v).length ≤ 500 := by
  have := quoteF_len v
  unfold tagW
  rw [List.length_append, List.length_append, List.length_singleton]; omega
def tagTextF (l : List (Tx × Tx)) : Tx × Nat :=
  if At.tagsB l then (if 20000 < (joinL (wordsL l) [32]).length then ([], 2) else (joinL (wordsL l) [32], 0)) else ([], 1)
def TxtE (w : World) (r : Tx × Nat) (e : Ending) (w' : World) : Prop := e = .returned (.tuple #[.string (mkB r.1), .int .i64 (r.2 : Int)]) ∧ Below w.heap.size w w'
theorem tagtext_any (A : Option Addr) (c : Nat) (l : List (Tx × Tx)) (n : Nat) (w : World) (hn : n = l.length) (hl : n ≤ 1000000) (hs : ∀ t ∈ l, t.1.length ≤ 9223372036854775807 ∧ t.2.length ≤ 9223372036854775807) (h : Rd w A (tagsC l)) :
    Calls Tryz.prog 200 #[.slice A n c] w (TxtE w (tagTextF l)) := by
  have TV := Lib.hid (tagv_any A c l n w hn hl hs h)
  have PM : Hid (tagTextF l = if At.tagsB l then (if 20000 < (joinL (wordsL l) [32]).length then ([], 2) else (joinL (wordsL l) [32], 0)) else ([], 1)) := Lib.hid rfl
  have H := Lib.hid h
  have HN := Lib.hid hn
  have e32 : (ByteArray.mk #[32]) = mkB [32] := rfl
  have e0 : (ByteArray.mk #[]) = mkB [] := rfl
  clear h hn hs
  go_enter Tryz.func200, Tryz.ntmps200
  go_wp2_with fail
  refine TV.out.mono ?_
  rintro e u1 ⟨rfl, b1⟩
  have B1 := Lib.hid b1
  clear b1 TV
  cases hV : At.tagsB l
  · have PE : Hid (tagTextF l = ([], 1)) := Lib.hid (by rw [PM.out, hV]; rfl)
    go_wp2_with fail
    go_ret2
    exact ⟨by rw [PE.out]; rfl, B1.out⟩
  · have PE : Hid (tagTextF l = if 20000 < (joinL (wordsL l) [32]).length then ([], 2) else (joinL (wordsL l) [32], 0)) := Lib.hid (by rw [PM.out, hV]; rfl)
    obtain ⟨l60, lsm⟩ := tags_small hV
    have LS := Lib.hid lsm
    obtain ⟨X, hX⟩ : ∃ X, X = u1.alloc (.cells #[.slice none 0 0] 35) := ⟨_, rfl⟩
    obtain ⟨bw, hbw⟩ : ∃ bw, u1.heap.size = bw := ⟨_, rfl⟩
    have hBw : w.heap.size ≤ bw := by have := B1.out.size; omega
    have HX : Hid (WordsAt w.heap.size bw (wordsL (l.take 0)) X) := Lib.hid ⟨_, by rw [hX, ← hbw]; exact heap_alloc_new u1 _, by rw [List.take_zero]; exact World.ownsRow_nil _ _ _ _⟩
    have BX : Hid (Below w.heap.size w X) := Lib.hid (by rw [hX]; exact B1.out.alloc (by omega) _)
    have n60 : n ≤ 60 := by rw [HN.out]; exact l60
    clear PM lsm l60 hl
    go_upto_region 5 with fail
    rw [← hX]
    try rw [hbw]
    clear hX hbw B1
    go_wp2_with fail
    go_loopw [7, 15] (fun s7 s15 wr => ∃ k : Nat, k ≤ n ∧ s15 = .int .i64 (k : Int) ∧ (∃ p, s7 = p) ∧ Hid (WordsAt w.heap.size bw (wordsL (l.take k)) wr) ∧ Hid (Below w.heap.size w wr)) (fun _ i _ => n - (intOf i).toNat)
    case atStart => exact ⟨0, Nat.zero_le _, rfl, ⟨_, rfl⟩, HX, BX⟩
    case round =>
      clear HX BX
      obtain ⟨k, hk, rfl, ⟨p7, rfl⟩, OW, BL⟩ := hrel
      by_cases hlt : k < n
      · have hkl : k < l.length := by rw [← HN.out]; exact hlt
        have d1 : (k : Int) < (n : Int) := by omega
        have d2 : (0 : Int) ≤ (k : Int) := by omega
        obtain ⟨b, off, rfl, hb, c0, c1⟩ := tags_at (H.out.below BL.out) hkl
        have SZ := LS.out l[k] (List.getElem_mem hkl)
        have TK : Hid (wordsL (l.take (k + 1)) = wordsL (l.take k) ++ [tagW l[k].1 l[k].2]) := Lib.hid (by unfold wordsL; rw [List.take_succ_eq_append_getElem hkl, List.map_append]; rfl)
        have LE : (wordsL (l.take k)).length ≤ k := by unfold wordsL; rw [List.length_map, List.length_take]; omega
        generalize wordsL (l.take k) = L at *
        generalize l[k] = x at *
        obtain ⟨x1, x2⟩ := x
        dsimp only at c0 c1 SZ TK
        have TA := Lib.hid (textadd_any w.heap.size bw L x1 x2 (wr.alloc (.cells #[.string (mkB x1), .string (mkB x2)] 181)) (OW.out.below ((Below.refl _ _).alloc (Nat.le_refl _) _)) hBw (by omega) (by omega) (by omega))
        have BA := Lib.hid (BL.out.alloc BL.out.size (.cells #[.string (mkB x1), .string (mkB x2)] 181))
        clear OW SZ LE
        go_wp2_with fail
        refine TA.out.mono ?_
        rintro e w1 ⟨rfl, h1, b1⟩
        have W1 : Hid (WordsAt w.heap.size bw (wordsL (l.take (k + 1))) w1) := Lib.hid (by rw [TK.out]; exact h1)
        have B2 := Lib.hid (BA.out.trans b1)
        clear h1 b1 TA BA TK c0 c1
        go_wp2_with fail
        exact ⟨⟨k + 1, by omega, by go_num, ⟨_, rfl⟩, W1, B2⟩, by simp [intOf]; omega⟩
      · have d1 : ¬ (k : Int) < (n : Int) := by omega
        have TT : Hid (l.take k = l) := Lib.hid (List.take_of_length_le (by rw [← HN.out]; omega))
        rw [TT.out] at OW
        obtain ⟨v0, hb0, ho0⟩ := OW.out
        have JL : (joinL (wordsL l) [32]).length ≤ 60 * 501 := Nat.le_trans (join_len [32] 500 (wordsL l) (fun t ht => by
          obtain ⟨x, hx, rfl⟩ := List.mem_map.1 ht
          exact tagW_len (LS.out x hx).1 (LS.out x hx).2)) (Nat.mul_le_mul_right _ (by unfold wordsL; rw [List.length_map, ← HN.out]; exact n60))
        obtain ⟨A0, c0, rfl, rd0, hle⟩ := own_slG ho0
        have cw := cell_of_row wr bw 0 _ _ _ hb0
        simp at cw
        have JA := Lib.hid (joinT_any A0 (wordsL l).length c0 (wordsL l) [32] wr rfl rd0 hle (by unfold wordsL; rw [List.length_map, ← HN.out]; omega) (by omega))
        clear hb0 ho0 rd0 OW
        go_wp2_with fail
        try rw [e32]
        refine JA.out.mono ?_
        rintro e w1 ⟨rfl, b1⟩
        have B2 := Lib.hid (BL.out.trans (b1.mono BL.out.size))
        have ml := mkB_len (joinL (wordsL l) [32])
        clear b1 JA
        generalize joinL (wordsL l) [32] = t at *
        by_cases h2 : 20000 < t.length
        · have d3 : (20000 : Int) < (t.length : Int) := by omega
          have PF : Hid (tagTextF l = ([], 2)) := Lib.hid (by rw [PE.out, if_pos h2])
          clear PE
          go_wp2_with fail
          go_ret2
          exact ⟨by rw [PF.out]; rfl, B2.out⟩
        · have d3 : ¬ (20000 : Int) < (t.length : Int) := by omega
          have PF : Hid (tagTextF l = (t, 0)) := Lib.hid (by rw [PE.out, if_neg h2])
          clear PE
          go_wp2_with fail
          go_ret2
          exact ⟨by rw [PF.out]; rfl, B2.out⟩
end Go.Proofs.YtniklmikdkjgiaaGreatDoor
namespace Go.Proofs.YtniklmikdkjgiaaGreatDoor
open Go.RowKit Go.Lib
theorem liesW : liesAt Tryz.prog Tryz.prog.depth 230 (2 / Tryz.prog.cellsOf 230) 0 146 1 = true := by kernel_rfl
theorem copyCheckW_fresh (b : Nat) (w : World) (h0 : w.cell? ⟨b, 0, none⟩ = some (.pointer none)) (hsh : w.shape? b = some (230, 2)) (hfz : w.frozen? ⟨b, 0, none⟩ = false) :
    Calls Tryz.prog 142 #[.pointer (some ⟨b, 0, none⟩)] w fun e w' => e = .returned (.tuple #[]) ∧ w' = w.setCell ⟨b, 0, none⟩ (.pointer (some ⟨b, 0, none⟩)) := by
  obtain ⟨j, hj, hjs⟩ := Option.map_eq_some_iff.1 Tryz.Builder_Extra_169.sizeBuilder
  go_enter Tryz.func142, Tryz.ntmps142
  go_wp2
  rw [Lib.run_to_unsafe w ⟨b, 0, none⟩ Tryz.underlying144 Tryz.underlying209 hj (by rw [hjs]; decide) hsh (Nat.zero_lt_succ 1)]
  simp only [Result.andThen]
  rw [Oper.upon_value]
  go_wp2
  rw [run_callFunc_extern Tryz.func168 (by kernel_rfl) (by kernel_rfl) (by kernel_rfl) (e := Extern.AbiNoEscape.same) (by kernel_rfl)]
  rw [Lib.run_noEscape]
  simp only [Result.andThen]
  rw [Oper.upon_value]
  go_wp2
  rw [Lib.run_from_unsafe w ⟨b, 0, none⟩ Tryz.underlying209 Tryz.underlying144 hj hsh liesW]
  simp only [Result.andThen]
  rw [Oper.upon_value]
  go_wp2
  go_end0
  exact ⟨rfl, rfl⟩
theorem copyCheckW_any (B b : Nat) (bs : List Value) (w : World) (h : Lib.IsBuilder 230 5 B b bs w) :
    Calls Tryz.prog 142 #[.pointer (some ⟨b, 0, none⟩)] w fun e w' => e = .returned (.tuple #[]) ∧ (Lib.BuilderAt 230 5 B b (.pointer (some ⟨b, 0, none⟩)) bs w' ∧ Below B w w') := by
  rcases h with h | h
  · refine (copyCheckW_fresh b w h.cell0 h.shape h.frozen0).mono ?_
    rintro e w' ⟨rfl, rfl⟩
    exact ⟨rfl, h.used _, (Below.refl B w).setCell (p := ⟨b, 0, none⟩) h.1 _⟩
  · refine (copyCheck_used b w h.cell0).mono ?_
    rintro e w' ⟨rfl, rfl⟩
    exact ⟨rfl, h, Below.refl B _⟩
theorem writeStringW_any (B b : Nat) (bs : List Value) (s : ByteArray) (w : World) (h : Lib.IsBuilder 230 5 B b bs w) (hlen : bs.length + s.size ≤ 140737488355328) (hBw : B ≤ w.heap.size) :
    Calls Tryz.prog 112 #[.pointer (some ⟨b, 0, none⟩), .string s] w fun e w' => e = .returned (.tuple #[.int .i64 s.size, .nilIface]) ∧ (Lib.BuilderAt 230 5 B b (.pointer (some ⟨b, 0, none⟩)) (bs ++ Lib.strCells s) w' ∧ Below B w w') := by
  obtain ⟨i0, hi, hz0, hz1, hz2⟩ := info_parts Tryz.Builder_Extra_169.infoByte
  have CC := Lib.hid (copyCheckW_any B b bs w h)
  go_enter Tryz.func112, Tryz.ntmps112
  go_wp2_with fail
  refine CC.out.mono ?_
  rintro e w1 ⟨rfl, h1, hb1⟩
  obtain ⟨hB, v, hbk, hown, hne⟩ := h1
  have c0 : w1.cell? ⟨b, 0, none⟩ = some (.pointer (some ⟨b, 0, none⟩)) := by rw [Lib.cell_of_heap hbk]; rfl
  have c1 : w1.cell? ⟨b, 1, none⟩ = some v := by rw [Lib.cell_of_heap hbk]; rfl
  go_wp2_with (at_builtin; refine Lib.wpList_append_own_string _ rfl _ _ 137 9 rfl B 5 i0 Tryz.underlying137 Tryz.underlying9 hi hz0 hz1 hz2 _ _ _ rfl hown s rfl ?c3 ?c4 ?c5 ?_)
  case c3 => unfold maxLen; omega
  case c4 => omega
  case c5 => have := hb1.size; omega
  intro v' w2 hown' hgrow _
  have hlt : b < w1.heap.size := lt_of_block hbk
  have hb2 : w2.heap[b]? = some (.cells #[.pointer (some ⟨b, 0, none⟩), v] 230 (0, 0)) := by
    rw [hgrow.block b hlt (fun e => hne e.symm)]
    exact hbk
  have d0 : w2.cell? ⟨b, 0, none⟩ = some (.pointer (some ⟨b, 0, none⟩)) := by rw [Lib.cell_of_heap hb2]; rfl
  have d1 : w2.cell? ⟨b, 1, none⟩ = some v := by rw [Lib.cell_of_heap hb2]; rfl
  have f1 : w2.frozen? ⟨b, 1, none⟩ = false := Lib.frozen_of_heap hb2 1
  obtain ⟨ao, n', cap, rfl⟩ : ∃ ao n' cap, v' = .slice ao n' cap := by
    rcases hown'.2 with ⟨hv, _⟩ | ⟨g, cap, cur, hv, _⟩
    · exact ⟨_, _, _, hv⟩
    · exact ⟨_, _, _, hv⟩
  go_wp2
  go_ret2
  refine ⟨rfl, ?_, ?_⟩
  · exact Lib.BuilderAt.put (T := 230) (e := 5) hB hb2 (bs' := bs ++ Lib.strCells s) (by simpa [Lib.strCells_length] using hown') (by decide)
  · exact (hb1.grown hgrow (by have := hb1.size; omega) (fun k hk => (hown.lt k hk).1)).setCell (p := ⟨b, 1, none⟩) hB _
theorem writeByteW_any (B b : Nat) (bs : List Value) (c : UInt8) (w : World) (h : Lib.IsBuilder 230 5 B b bs w) (hlen : bs.length ≤ 140737488355000) (hBw : B ≤ w.heap.size) :
    Calls Tryz.prog 114 #[.pointer (some ⟨b, 0, none⟩), .int .u8 (c.toNat : Int)] w fun e w' => e = .returned .nilIface ∧ (Lib.BuilderAt 230 5 B b (.pointer (some ⟨b, 0, none⟩)) (bs ++ [.int .u8 (c.toNat : Int)]) w' ∧ Below B w w') := by
  have CC := Lib.hid (copyCheckW_any B b bs w h)
  go_enter Tryz.func114, Tryz.ntmps114
  go_wp2_with fail
  refine CC.out.mono ?_
  rintro e w1 ⟨rfl, h1, hb1⟩
  obtain ⟨hB, v, hbk, hown, hne⟩ := h1
  have hlt : b < w1.heap.size := lt_of_block hbk
  have c0 : w1.cell? ⟨b, 0, none⟩ = some (.pointer (some ⟨b, 0, none⟩)) := by rw [Lib.cell_of_heap hbk]; rfl
  have c1 : w1.cell? ⟨b, 1, none⟩ = some v := by rw [Lib.cell_of_heap hbk]; rfl
  have hs1 : B ≤ w1.heap.size := by have := hb1.size; omega
  have HW := Lib.hid hown
  have HK := Lib.hid hbk
  clear hown hbk
  go_wp2_with (at_builtin; refine wpList_app1G rfl (.tmp 11) (.tmp 13) 137 rfl Tryz.underlying137 infoB8 rfl (by decide) B v _ _ w1 #[.int .u8 (c.toNat : Int)] rfl ?c1 rfl rfl rfl HW.out hs1 ?c2 ?c3 ?_)
  case c1 => rfl
  case c2 => omega
  case c3 => omega
  intro v' w2 hown' hbel hgrow
  have hK := HK.out
  have hb2 : w2.heap[b]? = some (.cells #[.pointer (some ⟨b, 0, none⟩), v] 230 (0, 0)) := by
    rw [hgrow.block b (by simp; omega) (fun e => hne e.symm)]
    exact (alloc_old _ _ hlt).trans hK
  have d0 : w2.cell? ⟨b, 0, none⟩ = some (.pointer (some ⟨b, 0, none⟩)) := by rw [Lib.cell_of_heap hb2]; rfl
  have d1 : w2.cell? ⟨b, 1, none⟩ = some v := by rw [Lib.cell_of_heap hb2]; rfl
  have f1 : w2.frozen? ⟨b, 1, none⟩ = false := Lib.frozen_of_heap hb2 1
  obtain ⟨ao, n', cap, rfl⟩ : ∃ ao n' cap, v' = .slice ao n' cap := by
    rcases hown'.2 with ⟨hv, _⟩ | ⟨g, cap, cur, hv, _⟩
    · exact ⟨_, _, _, hv⟩
    · exact ⟨_, _, _, hv⟩
  have FB := Lib.hid (Lib.BuilderAt.put (T := 230) (e := 5) hB hb2 (bs' := bs ++ [.int .u8 (c.toNat : Int)]) (by simpa using hown') (by decide))
  have BB : Hid (Below B w (w2.setCell ⟨b, 1, none⟩ (.slice ao n' cap))) := Lib.hid ((hb1.trans hbel).setCell (p := ⟨b, 1, none⟩) hB _)
  clear hown' hbel hgrow hK HW HK c0 c1 hb2
  go_wp2_with fail
  go_ret
  exact ⟨rfl, FB.out, BB.out⟩
abbrev WrIs (B b : Nat) (t : Tx) (w : World) : Prop := Lib.IsBuilder 230 5 B b (Lib.byteCells t) w
theorem WrIs.parts {B b : Nat} {t : Tx} {w : World} (h : WrIs B b t w) : ∃ p v, B ≤ b ∧ w.heap[b]? = some (.cells #[p, v] 230 (0, 0)) ∧ w.ownsRow B 5 1 v t.length (Lib.byteCells t) := by
  rcases h with ⟨h1, v, h2, h3, -⟩ | ⟨h1, v, h2, h3, -⟩
  · exact ⟨_, v, h1, h2, by rwa [Lib.byteCells_length] at h3⟩
  · exact ⟨_, v, h1, h2, by rwa [Lib.byteCells_length] at h3⟩
theorem WrIs.below {B b : Nat} {t : Tx} {w w' : World} (h : WrIs B b t w) (k : Below w.heap.size w w') : WrIs B b t w' := by
  rcases h with ⟨h1, v, h2, h3, h4⟩ | ⟨h1, v, h2, h3, h4⟩
  · exact .inl ⟨h1, v, (k.block b (lt_of_block h2)).trans h2, own_below h3 k (Nat.le_refl _), h4⟩
  · exact .inr ⟨h1, v, (k.block b (lt_of_block h2)).trans h2, own_below h3 k (Nat.le_refl _), h4⟩
theorem lenW_any (B b : Nat) (t : Tx) (w : World) (h : WrIs B b t w) :
    Calls Tryz.prog 149 #[.pointer (some ⟨b, 0, none⟩)] w fun e w' => e = .returned (.int .i64 (t.length : Int)) ∧ w' = w := by
  obtain ⟨p, v, hB, hbk, hown⟩ := h.parts
  obtain ⟨A, c, rfl, -, -⟩ := own_slG hown
  have c1 : w.cell? ⟨b, 1, none⟩ = some (.slice A t.length c) := by rw [Lib.cell_of_heap hbk]; rfl
  go_enter Tryz.func149, Tryz.ntmps149
  go_wp2
  go_ret
  exact ⟨rfl, rfl⟩
theorem stringW_any (B b : Nat) (t : Tx) (w : World) (h : WrIs B b t w) (h0 : t ≠ []) :
    Calls Tryz.prog 115 #[.pointer (some ⟨b, 0, none⟩)] w fun e w' => e = .returned (.string (mkB t)) ∧ Below B w w' := by
  obtain ⟨p, v, hB, hbk, hown⟩ := h.parts
  have hl0 : t.length ≠ 0 := by simpa using h0
  obtain ⟨g, cap, cur, rfl, hbg, hg, hnc, hcm, hcs, htake⟩ : ∃ g cap cur, v = .slice (some ⟨g, 0, none⟩) t.length cap ∧ B ≤ g ∧ w.heap[g]? = some (.cells cur 5 (0, 0)) ∧ t.length ≤ cap ∧ cap ≤ maxLen ∧ cur.size = cap * 1 ∧ cur.toList.take (t.length * 1) = Lib.byteCells t := by
    rcases hown.2 with ⟨_, hz⟩ | ⟨g, cap, cur, hv, r⟩
    · exact absurd hz hl0
    · exact ⟨g, cap, cur, hv, r⟩
  have c1 : w.drew.cell? ⟨b, 1, none⟩ = some (.slice (some ⟨g, 0, none⟩) t.length cap) := by
    have : w.drew.heap[b]? = some (.cells #[p, .slice (some ⟨g, 0, none⟩) t.length cap] 230 (0, 0)) := hbk
    rw [Lib.cell_of_heap this]; rfl
  have hSD : (Builtin.unsafeSliceData_ #[137] 190 #[.slice (some ⟨g, 0, none⟩) t.length cap]).run Tryz.prog w.drew = .ok (.pointer (some ⟨g, 0, none⟩)) w.drew :=
    Lib.run_unsafeSliceData_row _ _ _ _ _ _ (by omega)
  have hUS : (Builtin.unsafeString_ #[190, 3] 9 #[.pointer (some ⟨g, 0, none⟩), .int .i64 t.length]).run Tryz.prog w.drew = .ok (.string ⟨t.toArray⟩) (w.drew.freeze ⟨g, 0, none⟩ t.length) := by
    refine Lib.run_unsafeString_row w.drew 190 3 9 5 Tryz.underlying190 Tryz.Builder_Extra_169.cellsByte g cur.size (by have hg' : w.drew.heap[g]? = some (.cells cur 5 (0, 0)) := hg; simp [World.shape?, hg']) t h0 (by omega) (by unfold maxLen at *; omega) ?_
    intro j x hx
    exact hown.cells (g := g) rfl j (.int .u8 x.toNat) (by simp [Lib.byteCells, hx])
  have mixed : Tryz.prog.follows .mixedOrders = true := by kernel_rfl
  go_enter Tryz.func115, Tryz.ntmps115
  go_wp2
  go_region_o
  all_goals (go_wp2; go_ret; exact ⟨rfl, Lib.below_freeze (Below.drew (Below.refl B w)) (p := ⟨g, 0, none⟩) hbg _⟩)
def putF (bs s : Tx) : Tx := if bs = [] then s else bs ++ [32] ++ s
theorem wput_any (B b : Nat) (bs s : Tx) (w : World) (h : WrIs B b bs w) (hlen : bs.length + s.length ≤ 1000000000) :
    Calls Tryz.prog 198 #[.pointer (some ⟨b, 0, none⟩), .string (mkB s)] w fun e w' => e = .returned (.tuple #[]) ∧ WrIs B b (putF bs s) w' ∧ Below B w w' := by
  have LA := Lib.hid (lenW_any B b bs w h)
  have hBw : B ≤ w.heap.size := by obtain ⟨p, v, hB, hbk, -⟩ := h.parts; have := lt_of_block hbk; omega
  have H := Lib.hid h
  have zl : (Lib.byteCells bs).length = bs.length := Lib.byteCells_length _
  have ms := mkB_len s
  have sc : Lib.strCells (mkB s) = Lib.byteCells s := by rw [← mkB_list s]; rfl
  rcases List.eq_nil_or_concat bs with h0 | ⟨_, _, h0⟩
  · have WA := Lib.hid (writeStringW_any B b _ (mkB s) w h (by rw [ms, zl]; omega) hBw)
    have PF : Hid (putF bs s = bs ++ s) := Lib.hid (by rw [h0]; rfl)
    have d0 : ¬ (0 : Int) < (bs.length : Int) := by rw [h0]; simp
    clear h h0
    go_enter Tryz.func198, Tryz.ntmps198
    go_wp2_with fail
    refine LA.out.mono ?_
    rintro e w1 ⟨rfl, rfl⟩
    go_wp2_with fail
    refine WA.out.mono ?_
    rintro e w2 ⟨rfl, h2, b2⟩
    have F := Lib.hid (And.intro h2 b2)
    clear h2 b2
    go_wp2_with fail
    go_end0
    exact ⟨rfl, .inr (by rw [PF.out, byteCells_app, ← sc]; exact F.out.1), F.out.2⟩
  · have hp : 0 < bs.length := by rw [h0]; simp
    have WA := Lib.hid (writeByteW_any B b _ 32 w h (by rw [zl]; omega) hBw)
    have WB := Lib.hid (fun u (hu : Lib.IsBuilder 230 5 B b (Lib.byteCells (bs ++ [32])) u) (hz : B ≤ u.heap.size) => writeStringW_any B b _ (mkB s) u hu (by rw [ms, Lib.byteCells_length, List.length_append, List.length_singleton]; omega) hz)
    have PF : Hid (putF bs s = bs ++ [32] ++ s) := Lib.hid (if_neg (by intro e; rw [e] at hp; exact absurd hp (by decide)))
    have d0 : (0 : Int) < (bs.length : Int) := by omega
    clear h h0
    go_enter Tryz.func198, Tryz.ntmps198
    go_wp2_with fail
    refine LA.out.mono ?_
    rintro e w1 ⟨rfl, rfl⟩
    go_wp2_with fail
    refine WA.out.mono ?_
    rintro e w2 ⟨rfl, h2, b2⟩
    have I2 : Hid (Lib.IsBuilder 230 5 B b (Lib.byteCells (bs ++ [32])) w2) := Lib.hid (.inr (by rw [← bc_snoc]; exact h2))
    have F := Lib.hid b2
    clear h2 b2 WA
    go_wp2_with fail
    refine (WB.out _ I2.out (Nat.le_trans hBw F.out.size)).mono ?_
    rintro e w3 ⟨rfl, h3, b3⟩
    have G := Lib.hid (And.intro h3 (F.out.trans b3))
    clear h3 b3
    go_wp2_with fail
    go_end0
    exact ⟨rfl, .inr (by rw [PF.out, byteCells_app, ← sc]; exact G.out.1), G.out.2⟩
end Go.Proofs.YtniklmikdkjgiaaGreatDoor
