import Derived.Test.YtniklmikdkjgiaaGreatDoorCLD
import Derived.Test.YtniklmikdkjgiaaGreatDoorETP
import Derived.Test.YtniklmikdkjgiaaGreatDoorWD
set_option linter.all false
set_option maxHeartbeats 16000000
set_option maxRecDepth 100000
namespace Go.Proofs.YtniklmikdkjgiaaGreatDoor
open Go.RowKit Go.Maps Go.ChangeMaps Go.MapKept Go.WideShapes Go.WideMaps
end Go.Proofs.YtniklmikdkjgiaaGreatDoor
namespace Go.Proofs.YtniklmikdkjgiaaGreatDoor
open Go.RowKit Go.Maps Go.ChangeMaps Go.MapKept Go.WideShapes Go.WideMaps
end Go.Proofs.YtniklmikdkjgiaaGreatDoor
namespace Go.Proofs.YtniklmikdkjgiaaGreatDoor
open Go.RowKit
theorem mst_szL (x:Sx):(Tryz.prog.info? 42).map (·.size) = some (stL x).length:=by kernel_rfl
theorem all29_any (A B:Option Addr) (c d:Nat) (l m:List Sx) (n1 n2:Nat) (w:World) (hn1:n1 = l.length) (hn2:n2 = m.length) (hl:n1 ≤ 1000000) (hm:n2 ≤ 1000000) (h:Rd w A (stsL l)) (h2:Rd w B (stsL m)) (k1:∀ e ∈ l,EdIs w e.cur) (k2:∀ e ∈ m,EdIs w e.cur) :
  Calls Tryz.prog 31 #[.slice A n1 c,.slice B n2 d] w fun e w'=>e = .returned (.bool (all2 sameX l m)) ∧ Below w.heap.size w w':=by
 have H:=Lib.hid h
 have H2:=Lib.hid h2
 have K1:=Lib.hid k1
 have K2:=Lib.hid k2
 have HN:=Lib.hid hn1
 have HM:=Lib.hid hn2
 clear hn1 hn2 h h2 k1 k2
 obtain ⟨R,hR⟩:∃ R,all2 sameX l m = R:=⟨_,rfl⟩
 have HR:=Lib.hid hR
 rw [hR]
 clear hR
 have B0:Hid (Below w.heap.size w w):=Lib.hid (Below.refl _ _)
 by_cases hlen:n1 = n2
 ·have hq:((n1:Int) != (n2:Int)) = false:=by rw [hlen]; simp
  have HL:=Lib.hid hlen
  have HR0:Hid (R = all2 sameX (l.drop 0) (m.drop 0)):=Lib.hid HR.out.symm
  clear hlen HR
  go_enter Tryz.func31, Tryz.ntmps31
  go_wp2_with fail
  go_loopw [5] (fun i wr=>∃ k:Nat,k ≤ n1 ∧ i = .int .i64 (k:Int) ∧ Hid (R = all2 sameX (l.drop k) (m.drop k)) ∧ Hid (Below w.heap.size w wr)) (fun i _=>n1 - (intOf i).toNat)
  case atStart=>exact ⟨0,Nat.zero_le _,rfl,HR0,B0⟩
  case round =>
   clear B0 HR0
   obtain ⟨k,hk,rfl,HR,BL⟩:=hrel
   by_cases hlt:k < n1
   ·have hkl:k < l.length:=by rw [← HN.out]; exact hlt
    have hkm:k < m.length:=by rw [← HM.out,← HL.out]; exact hlt
    have d1:(k:Int) < (n1:Int):=by omega
    have d3:(k:Int) < (n2:Int):=by have:=HL.out; omega
    have d2:(0:Int) ≤ (k:Int):=by omega
    obtain ⟨b,off,rfl,hb,hc⟩:=rd_rows 4 (by decide) (fun _=>rfl) (H.out.below BL.out) hkl
    obtain ⟨b',off',rfl,hb',hc'⟩:=rd_rows 4 (by decide) (fun _=>rfl) (H2.out.below BL.out) hkm
    have LA:=Lib.hid (rangeAt_old (cs:=stL l[k]) hb hc)
    have LB:=Lib.hid (rangeAt_old (cs:=stL m[k]) hb' hc')
    have HO:=K1.out l[k] (List.getElem_mem hkl)
    have HO':=K2.out m[k] (List.getElem_mem hkm)
    have HD:Hid (R = (sameX l[k] m[k] && all2 sameX (l.drop (k + 1)) (m.drop (k + 1)))):=Lib.hid (HR.out.trans (all2_drop hkl hkm))
    clear HR hc hc'
    generalize l[k] = x at *
    generalize m[k] = y at *
    have SM:Hid (∀ u,OldB wr u → Calls Tryz.prog 34 #[.agg (stL x).toArray,.agg (stL y).toArray] u fun e w'=>e = .returned (.bool (sameX x y)) ∧ Below u.heap.size u w'):=Lib.hid (fun u hu=>same29_any x y u (HO.below (BL.out.trans (Below.mono hu BL.out.size))) (HO'.below (BL.out.trans (Below.mono hu BL.out.size))))
    clear HO HO'
    have ZX:=mst_szL x
    have ZY:=mst_szL y
    generalize stL x = xs at *
    generalize stL y = ys at *
    generalize sameX x y = q at *
    go_wp2_with fail
    (refine wp_region_noPanic ?_; refine wp_region_held_drew (S := (OldB wr)) (by kernel_rfl) ?_ (fun hHeld => ?_); exact Below.drew (Below.refl _ _))
    (refine tkW 0 ?_; try simp only [gmS])
    (refine tkW 1 ?_; try simp only [gmS])
    (refine tkW 2 ?_; try simp only [gmS])
    (refine ldW 3 42 (.tmp 19) b (off + k * 4) xs _ LA.out Tryz.underlying42 ZX ?_; try simp only [gmS])
    (refine tkW 4 ?_; try simp only [gmS])
    (refine tkW 5 ?_; try simp only [gmS])
    (refine tkW 6 ?_; try simp only [gmS])
    (refine ldW 7 42 (.tmp 23) b' (off' + k * 4) ys _ LB.out Tryz.underlying42 ZY ?_; try simp only [gmS])
    (refine rdW 8 (fun K hK => ?_); go_simp)
    (with_reducible refine (SM.out _ hHeld).mono ?_)
    rintro e w1 ⟨rfl,b1⟩
    (refine hK.out _ _ (OldB.then hHeld b1) (fun hHeld2 => ?_); clear hK K hHeld; have hHeld := hHeld2; clear hHeld2; try simp only [gmS])
    (refine tkW 9 ?_; try simp only [gmS])
    have B1:=Lib.hid (BL.out.trans (Below.mono hHeld BL.out.size))
    (refine wpAnyH_done (by kernel_rfl) ?_ _; refine NoPanic.normal ?_)
    clear hHeld SM LA LB
    cases q
    ·have RF:Hid (R = false):=Lib.hid (by rw [HD.out,Bool.false_and])
     clear HD
     go_wp2_with fail
     go_ret
     exact ⟨by rw [RF.out]; rfl,B1.out⟩
    ·have R2:Hid (R = all2 sameX (l.drop (k + 1)) (m.drop (k + 1))):=Lib.hid (by rw [HD.out,Bool.true_and])
     clear HD
     go_wp2_with fail
     exact ⟨⟨k + 1,by omega,by go_num,R2,B1⟩,by simp [intOf]; omega⟩
   ·have d1:¬ (k:Int) < (n1:Int):=by omega
    have RT:Hid (R = true):=Lib.hid (HR.out.trans (all2_end (by rw [← HN.out]; omega) (by rw [← HM.out,← HL.out]; omega)))
    clear HR
    go_wp2_with fail
    go_ret
    exact ⟨by rw [RT.out]; rfl,BL.out⟩
 ·have hq:((n1:Int) != (n2:Int)) = true:=by simp; omega
  have RF:Hid (R = false):=Lib.hid (HR.out.symm.trans (all2_ne (by rw [← HN.out,← HM.out]; exact hlen)))
  clear hlen HR
  go_enter Tryz.func31, Tryz.ntmps31
  go_wp2_with fail
  go_ret
  exact ⟨by rw [RF.out]; rfl,B0.out⟩
end Go.Proofs.YtniklmikdkjgiaaGreatDoor
namespace Go.Proofs.YtniklmikdkjgiaaGreatDoor
open Go.RowKit
end Go.Proofs.YtniklmikdkjgiaaGreatDoor
