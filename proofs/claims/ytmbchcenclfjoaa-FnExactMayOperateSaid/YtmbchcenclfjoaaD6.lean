/- The law on MayOperate. -/
import Derived.Test.YtmbchcenclfjoaaB
import Derived.Test.YtmbchcenclfjoaaMo
namespace Go.Proofs.Ytmbchcenclfjoaa
open Go.ChangeShapes Go.WideShapes Go.ChangeAt Go.RowKit
set_option linter.unusedVariables false
set_option linter.unusedSimpArgs false
set_option maxRecDepth 20000 in
theorem walkFnExactMayOperate (p : List (Int × Int)) (Ap : Option Addr) (cp : Nat) (l : List (Int × Int)) (Al : Option Addr) (cl : Nat) (day : Int) (w : World) (Rp : Rd w w.heap.size Ap ((p).flatMap eTask)) (hlcp : p.length ≤ cp) (hmp : cp ≤ maxLen) (Rl : Rd w w.heap.size Al ((l).flatMap eLock)) (hlcl : l.length ≤ cl) (hml : cl ≤ maxLen) (wfday : (Lit.int .i64 day).wf = true) :
   Calls Try.prog 10 #[.slice Ap p.length cp, .slice Al l.length cl, .int .i64 day] w fun e w' => e = .returned (.bool true) ∧ Below w.heap.size w w' := by
  clear wfday
  unfold maxLen at hmp
  unfold maxLen at hml
  by_cases hnp : (p.length : Int) ≤ 1048576
  rotate_left
  · skip
    go_enter Try.func10, Try.ntmps10
    go_wp2_with fail
    refine (szTaskS_great _ _ _ _ (by omega) (by omega) (by omega) (by omega) _).mono ?_; rintro e w' ⟨rfl, rfl⟩
    go_wp2
    go_ret
    exact ⟨rfl, by repeat' (first | (with_reducible exact Below.refl _ _) | (with_reducible assumption) | (with_reducible refine Below.alloc ?_ ?_ _) | (with_reducible refine Below.drew ?_) | (with_reducible refine below_drewN ?_ _) | (with_reducible refine Below.setCell ?_ ?_ _) | (with_reducible refine Below.trans ?_ (Below.mono (by assumption) ?_)) | go_size | (exact Below.size (by assumption)))⟩
  by_cases hnl : (p.length : Int) + (l.length : Int) ≤ 1048576
  rotate_left
  · skip
    go_enter Try.func10, Try.ntmps10
    go_wp2_with fail
    refine (szTaskS_small _ _ _ _ (by omega) (by omega) _).mono ?_; rintro e w' ⟨rfl, rfl⟩
    go_wp2_with fail
    refine (szLockS_great _ _ _ _ (by omega) (by omega) (by omega) (by omega) _).mono ?_; rintro e w' ⟨rfl, rfl⟩
    go_wp2
    go_ret
    exact ⟨rfl, by repeat' (first | (with_reducible exact Below.refl _ _) | (with_reducible assumption) | (with_reducible refine Below.alloc ?_ ?_ _) | (with_reducible refine Below.drew ?_) | (with_reducible refine below_drewN ?_ _) | (with_reducible refine Below.setCell ?_ ?_ _) | (with_reducible refine Below.trans ?_ (Below.mono (by assumption) ?_)) | go_size | (exact Below.size (by assumption)))⟩
  have hkp : p.length ≤ 1048576 := by omega
  have hkl : l.length ≤ 1048576 := by omega
  go_enter Try.func10, Try.ntmps10
  go_wp2_with fail
  refine (szTaskS_small _ _ _ _ (by omega) (by omega) _).mono ?_; rintro e w' ⟨rfl, rfl⟩
  go_wp2_with fail
  refine (szLockS_small _ _ _ _ (by omega) (by omega) _).mono ?_; rintro e w' ⟨rfl, rfl⟩
  go_wp2_with fail
  refine (toTaskS_any p Ap _ _ _ Rp (by first | omega | (simp only [World.size_alloc]; omega)) hkp).mono ?_; rintro e w1 ⟨Asp, csp, rfl, Osp, b1⟩
  have z1 := b1.size
  replace Rp := Rp.below b1 (by first | omega | (simp only [World.size_alloc]; omega))
  replace Rl := Rl.below b1 (by first | omega | (simp only [World.size_alloc]; omega))
  have Rsp := Rd.of_own Osp
  have ksp := own_cap Osp
  have Lsp := own_lt Osp
  go_wp2_with fail
  refine (toLockS_any l Al _ _ _ Rl (by first | omega | (simp only [World.size_alloc]; omega)) hkl).mono ?_; rintro e w2 ⟨Asl, csl, rfl, Osl, b2⟩
  have z2 := b2.size
  replace Rp := Rp.below b2 (by first | omega | (simp only [World.size_alloc]; omega))
  replace Rl := Rl.below b2 (by first | omega | (simp only [World.size_alloc]; omega))
  replace Rsp := Rsp.below b2 (by first | omega | (simp only [World.size_alloc]; omega))
  replace Osp := own_below Osp b2
  have Rsl := Rd.of_own Osl
  have ksl := own_cap Osl
  have Lsl := own_lt Osl
  go_wp2_with fail
  refine (may_spec p l day Asp Asl _ _ _ _ (Rsp.more (by omega)) (Rsl.more (by omega)) (Nat.le_refl _) hkp hkl).mono ?_; rintro e w3 ⟨rfl, b3⟩
  have z3 := b3.size
  replace Rp := Rp.below b3 (by first | omega | (simp only [World.size_alloc]; omega))
  replace Rl := Rl.below b3 (by first | omega | (simp only [World.size_alloc]; omega))
  replace Rsp := Rsp.below b3 (by first | omega | (simp only [World.size_alloc]; omega))
  replace Osp := own_below Osp b3
  replace Rsl := Rsl.below b3 (by first | omega | (simp only [World.size_alloc]; omega))
  replace Osl := own_below Osl b3
  clear Osp
  clear Rsp
  clear Osl
  clear Rsl
  go_wp2_with fail
  refine (toTaskS_any p Ap _ _ _ Rp (by first | omega | (simp only [World.size_alloc]; omega)) hkp).mono ?_; rintro e w4 ⟨Axp, cxp, rfl, Oxp, b4⟩
  have z4 := b4.size
  replace Rp := Rp.below b4 (by first | omega | (simp only [World.size_alloc]; omega))
  replace Rl := Rl.below b4 (by first | omega | (simp only [World.size_alloc]; omega))
  have Rxp := Rd.of_own Oxp
  have kxp := own_cap Oxp
  have Lxp := own_lt Oxp
  go_wp2_with fail
  refine (toLockS_any l Al _ _ _ Rl (by first | omega | (simp only [World.size_alloc]; omega)) hkl).mono ?_; rintro e w5 ⟨Axl, cxl, rfl, Oxl, b5⟩
  have z5 := b5.size
  replace Rp := Rp.below b5 (by first | omega | (simp only [World.size_alloc]; omega))
  replace Rl := Rl.below b5 (by first | omega | (simp only [World.size_alloc]; omega))
  replace Rxp := Rxp.below b5 (by first | omega | (simp only [World.size_alloc]; omega))
  replace Oxp := own_below Oxp b5
  have Rxl := Rd.of_own Oxl
  have kxl := own_cap Oxl
  have Lxl := own_lt Oxl
  go_wp2_with fail
  refine (may_impl p l day Axp Axl _ _ _ _ (Rxp.more (by omega)) (Rxl.more (by omega)) (Nat.le_refl _) hkp kxl hkl).mono ?_; rintro e w6 ⟨rfl, b6⟩
  have z6 := b6.size
  replace Rp := Rp.below b6 (by first | omega | (simp only [World.size_alloc]; omega))
  replace Rl := Rl.below b6 (by first | omega | (simp only [World.size_alloc]; omega))
  replace Rxp := Rxp.below b6 (by first | omega | (simp only [World.size_alloc]; omega))
  replace Oxp := own_below Oxp b6
  replace Rxl := Rxl.below b6 (by first | omega | (simp only [World.size_alloc]; omega))
  replace Oxl := own_below Oxl b6
  go_wp2_with fail
  refine (toTaskS_any p Ap _ _ _ Rp (by first | omega | (simp only [World.size_alloc]; omega)) hkp).mono ?_; rintro e w7 ⟨Ayp, cyp, rfl, Oyp, b7⟩
  have z7 := b7.size
  replace Rp := Rp.below b7 (by first | omega | (simp only [World.size_alloc]; omega))
  replace Rl := Rl.below b7 (by first | omega | (simp only [World.size_alloc]; omega))
  replace Rxp := Rxp.below b7 (by first | omega | (simp only [World.size_alloc]; omega))
  replace Oxp := own_below Oxp b7
  replace Rxl := Rxl.below b7 (by first | omega | (simp only [World.size_alloc]; omega))
  replace Oxl := own_below Oxl b7
  have Ryp := Rd.of_own Oyp
  have kyp := own_cap Oyp
  have Lyp := own_lt Oyp
  go_wp2_with fail
  refine (eqTaskS_same p Axp Ayp _ _ _ _ (Rxp.more (by first | omega | (simp only [World.size_alloc]; omega))) (Ryp.more (by first | omega | (simp only [World.size_alloc]; omega))) (Nat.le_refl _) hkp).mono ?_; rintro e w8 ⟨rfl, b8⟩
  have z8 := b8.size
  replace Rp := Rp.below b8 (by first | omega | (simp only [World.size_alloc]; omega))
  replace Rl := Rl.below b8 (by first | omega | (simp only [World.size_alloc]; omega))
  replace Rxp := Rxp.below b8 (by first | omega | (simp only [World.size_alloc]; omega))
  replace Oxp := own_below Oxp b8
  replace Rxl := Rxl.below b8 (by first | omega | (simp only [World.size_alloc]; omega))
  replace Oxl := own_below Oxl b8
  replace Ryp := Ryp.below b8 (by first | omega | (simp only [World.size_alloc]; omega))
  replace Oyp := own_below Oyp b8
  clear Ryp
  clear Oyp
  go_wp2_with fail
  refine (toLockS_any l Al _ _ _ Rl (by first | omega | (simp only [World.size_alloc]; omega)) hkl).mono ?_; rintro e w9 ⟨Ayl, cyl, rfl, Oyl, b9⟩
  have z9 := b9.size
  replace Rp := Rp.below b9 (by first | omega | (simp only [World.size_alloc]; omega))
  replace Rl := Rl.below b9 (by first | omega | (simp only [World.size_alloc]; omega))
  replace Rxp := Rxp.below b9 (by first | omega | (simp only [World.size_alloc]; omega))
  replace Oxp := own_below Oxp b9
  replace Rxl := Rxl.below b9 (by first | omega | (simp only [World.size_alloc]; omega))
  replace Oxl := own_below Oxl b9
  have Ryl := Rd.of_own Oyl
  have kyl := own_cap Oyl
  have Lyl := own_lt Oyl
  go_wp2_with fail
  refine (eqLockS_same l Axl Ayl _ _ _ _ (Rxl.more (by first | omega | (simp only [World.size_alloc]; omega))) (Ryl.more (by first | omega | (simp only [World.size_alloc]; omega))) (Nat.le_refl _) hkl).mono ?_; rintro e w10 ⟨rfl, b10⟩
  have z10 := b10.size
  replace Rp := Rp.below b10 (by first | omega | (simp only [World.size_alloc]; omega))
  replace Rl := Rl.below b10 (by first | omega | (simp only [World.size_alloc]; omega))
  replace Rxp := Rxp.below b10 (by first | omega | (simp only [World.size_alloc]; omega))
  replace Oxp := own_below Oxp b10
  replace Rxl := Rxl.below b10 (by first | omega | (simp only [World.size_alloc]; omega))
  replace Oxl := own_below Oxl b10
  replace Ryl := Ryl.below b10 (by first | omega | (simp only [World.size_alloc]; omega))
  replace Oyl := own_below Oyl b10
  clear Ryl
  clear Oyl
  go_wp2
  go_ret
  exact ⟨rfl, by repeat' (first | (with_reducible exact Below.refl _ _) | (with_reducible assumption) | (with_reducible refine Below.alloc ?_ ?_ _) | (with_reducible refine Below.drew ?_) | (with_reducible refine below_drewN ?_ _) | (with_reducible refine Below.setCell ?_ ?_ _) | (with_reducible refine Below.trans ?_ (Below.mono (by assumption) ?_)) | go_size | (exact Below.size (by assumption)))⟩
end Go.Proofs.Ytmbchcenclfjoaa
