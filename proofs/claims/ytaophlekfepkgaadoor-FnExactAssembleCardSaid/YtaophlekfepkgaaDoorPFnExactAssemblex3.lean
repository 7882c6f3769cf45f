/- Printed by a program out of the translation, with contracts of my own set in. -/
import Derived.Test.YtaophlekfepkgaaDoorPFnExactAssemblex0
import Derived.Test.YtaophlekfepkgaaDoorPFnExactAssemblex1
import Derived.Test.YtaophlekfepkgaaDoorPFnExactAssemblex2
namespace Go.Proofs.YtaophlekfepkgaaDoor.PFnExactAssemble
open Go.RowKit Go.Proofs.YtaophlekfepkgaaDoorW.PrintWords Go.Proofs.YtaophlekfepkgaaDoorW.PrintLast Go.Proofs.YtaophlekfepkgaaDoorW.PrintMore
attribute [local go_sem] max2_int min2_int max_two min_two max_three min_three max_four min_four   -- for this text's walks alone
set_option linter.unusedVariables false
set_option linter.unusedSimpArgs false

/-! ### spec_ReadLine: function 17 -/
mutual
def spec_ReadLine.j0 : Nat → List ByteArray → Bool → Int → Int → Int → Int → Int → Int → Int → ByteArray → Option (Int × Int × Int × Int × Int × Int × Int × ByteArray)
 | 0, _, _, _, _, _, _, _, _, _, _ => none
 | k + 1, x4, x44, x134000, x134001, x134002, x134003, x134004, x134005, x134006, x134007 => if x44 = true then (if 0 < (x4.length : Int) then (if 0 ≤ (wrap64 (((rdOf ByteArray.empty x4 0).size : Int) - 1)) then (if (wrap64 (((rdOf ByteArray.empty x4 0).size : Int) - 1)) ≤ ((rdOf ByteArray.empty x4 0).size : Int) then ((spec_LabelOk.f k ((rdOf ByteArray.empty x4 0).extract 0 ((wrap64 (((rdOf ByteArray.empty x4 0).size : Int) - 1)) : Int).toNat)).bind fun t142 => (if t142 = true then (some (1, 0, 0, 0, 0, 0, 0, (rdOf ByteArray.empty x4 0).extract 0 ((wrap64 (((rdOf ByteArray.empty x4 0).size : Int) - 1)) : Int).toNat)) else (some (x134000, x134001, x134002, x134003, x134004, x134005, x134006, x134007)))) else (none)) else (none)) else (none)) else (if 0 < (x4.length : Int) then (if (rdOf ByteArray.empty x4 0).toList = ([46, 119, 111, 114, 100] : List UInt8) then (if (x4.length : Int) = 2 then (if 1 < (x4.length : Int) then ((spec_DecNum.f k (rdOf ByteArray.empty x4 1) 4294967295).bind fun bt145 => (if bt145.2 = true then (if bt145.1 < 0 then (some (x134000, x134001, x134002, x134003, x134004, x134005, x134006, x134007)) else (some (2, 0, 0, 0, 0, 0, (bt145.1) % 4294967296, (⟨#[]⟩ : ByteArray)))) else (some (x134000, x134001, x134002, x134003, x134004, x134005, x134006, x134007)))) else (none)) else (some (x134000, x134001, x134002, x134003, x134004, x134005, x134006, x134007))) else ((spec_OpOf.f k (rdOf ByteArray.empty x4 0)).bind fun t148 => (if t148 < 0 then (some (x134000, x134001, x134002, x134003, x134004, x134005, x134006, x134007)) else ((spec_FormOf.f t148).bind fun t149 => (spec_ReadLine.l0 k x4 t148 t149 1 1 x134000 x134001 x134002 x134003 x134004 x134005 x134006 x134007 3 t148 0 0 0 0 0 (⟨#[]⟩ : ByteArray)))))) else (none))
def spec_ReadLine.l0 : Nat → List ByteArray → Int → Int → Int → Int → Int → Int → Int → Int → Int → Int → Int → ByteArray → Int → Int → Int → Int → Int → Int → Int → ByteArray → Option (Int × Int × Int × Int × Int × Int × Int × ByteArray)
 | 0, _, _, _, _, _, _, _, _, _, _, _, _, _, _, _, _, _, _, _, _, _ => none
 | k + 1, x4, x8, x9, x11, x12, x134000, x134001, x134002, x134003, x134004, x134005, x134006, x134007, x151000, x151001, x151002, x151003, x151004, x151005, x151006, x151007 => if x12 ≤ 4 then (if x12 = 0 then (none) else (if (Int.tmod (wrap64 (Int.tdiv x9 x12)) 2) = 1 then (if x11 ≥ (x4.length : Int) then (spec_ReadLine.j2 k x4 x8 x9 x11 x12 true x134000 x134001 x134002 x134003 x134004 x134005 x134006 x134007 x151000 x151001 x151002 x151003 x151004 x151005 x151006 x151007) else (if 0 ≤ x11 then (if x11 < (x4.length : Int) then ((spec_l03Reg.f k (rdOf ByteArray.empty x4 x11)).bind fun t152 => (spec_ReadLine.j2 k x4 x8 x9 x11 x12 (decide (t152 < 0)) x134000 x134001 x134002 x134003 x134004 x134005 x134006 x134007 x151000 x151001 x151002 x151003 x151004 x151005 x151006 x151007)) else (none)) else (none))) else (spec_ReadLine.l0 k x4 x8 x9 x11 (wrap64 (2 * x12)) x134000 x134001 x134002 x134003 x134004 x134005 x134006 x134007 x151000 x151001 x151002 x151003 x151004 x151005 x151006 x151007))) else (if (Int.tmod (wrap64 (Int.tdiv x9 8)) 2) = 1 then (if x11 ≥ (x4.length : Int) then (some (x134000, x134001, x134002, x134003, x134004, x134005, x134006, x134007)) else (if 0 ≤ x11 then (if x11 < (x4.length : Int) then ((spec_DecNum.f k (rdOf ByteArray.empty x4 x11) 8192).bind fun bt156 => (if bt156.2 = true then (spec_ReadLine.j3 k x4 x8 x11 bt156.1 (decide (bt156.1 ≤ 8191)) x134000 x134001 x134002 x134003 x134004 x134005 x134006 x134007 x151000 x151001 x151002 x151003 x151004 x151005 x151006 x151007) else (spec_ReadLine.j3 k x4 x8 x11 bt156.1 false x134000 x134001 x134002 x134003 x134004 x134005 x134006 x134007 x151000 x151001 x151002 x151003 x151004 x151005 x151006 x151007))) else (none)) else (none))) else (if x11 = (x4.length : Int) then (some (x151000, x151001, x151002, x151003, x151004, x151005, x151006, x151007)) else (some (x134000, x134001, x134002, x134003, x134004, x134005, x134006, x134007))))
def spec_ReadLine.j2 : Nat → List ByteArray → Int → Int → Int → Int → Bool → Int → Int → Int → Int → Int → Int → Int → ByteArray → Int → Int → Int → Int → Int → Int → Int → ByteArray → Option (Int × Int × Int × Int × Int × Int × Int × ByteArray)
 | 0, _, _, _, _, _, _, _, _, _, _, _, _, _, _, _, _, _, _, _, _, _, _ => none
 | k + 1, x4, x8, x9, x11, x12, x118, x134000, x134001, x134002, x134003, x134004, x134005, x134006, x134007, x151000, x151001, x151002, x151003, x151004, x151005, x151006, x151007 => if x118 = true then (some (x134000, x134001, x134002, x134003, x134004, x134005, x134006, x134007)) else (if 0 ≤ x11 then (if x11 < (x4.length : Int) then ((spec_l03Reg.f k (rdOf ByteArray.empty x4 x11)).bind fun t154 => (if x12 = 1 then (spec_ReadLine.l0 k x4 x8 x9 (wrap64 (x11 + 1)) (wrap64 (2 * x12)) x134000 x134001 x134002 x134003 x134004 x134005 x134006 x134007 x151000 x151001 t154 x151003 x151004 x151005 x151006 x151007) else (if x12 = 2 then (spec_ReadLine.l0 k x4 x8 x9 (wrap64 (x11 + 1)) (wrap64 (2 * x12)) x134000 x134001 x134002 x134003 x134004 x134005 x134006 x134007 x151000 x151001 x151002 t154 x151004 x151005 x151006 x151007) else (spec_ReadLine.l0 k x4 x8 x9 (wrap64 (x11 + 1)) (wrap64 (2 * x12)) x134000 x134001 x134002 x134003 x134004 x134005 x134006 x134007 x151000 x151001 x151002 x151003 t154 x151005 x151006 x151007)))) else (none)) else (none))
def spec_ReadLine.j3 : Nat → List ByteArray → Int → Int → Int → Bool → Int → Int → Int → Int → Int → Int → Int → ByteArray → Int → Int → Int → Int → Int → Int → Int → ByteArray → Option (Int × Int × Int × Int × Int × Int × Int × ByteArray)
 | 0, _, _, _, _, _, _, _, _, _, _, _, _, _, _, _, _, _, _, _, _, _ => none
 | k + 1, x4, x8, x11, x14, x162, x134000, x134001, x134002, x134003, x134004, x134005, x134006, x134007, x151000, x151001, x151002, x151003, x151004, x151005, x151006, x151007 => if x162 = true then (if (wrap64 (x11 + 1)) = (x4.length : Int) then (some (x151000, x151001, x151002, x151003, x151004, x14, x151006, x151007)) else (some (x134000, x134001, x134002, x134003, x134004, x134005, x134006, x134007))) else ((spec_l01In.f x8 19 22).bind fun t158 => (if t158 = true then (if 0 ≤ x11 then (if x11 < (x4.length : Int) then ((spec_LabelOk.f k (rdOf ByteArray.empty x4 x11)).bind fun t160 => (spec_ReadLine.j4 k x4 x11 t160 x134000 x134001 x134002 x134003 x134004 x134005 x134006 x134007 x151000 x151001 x151002 x151003 x151004 x151005 x151006 x151007)) else (none)) else (none)) else (spec_ReadLine.j4 k x4 x11 false x134000 x134001 x134002 x134003 x134004 x134005 x134006 x134007 x151000 x151001 x151002 x151003 x151004 x151005 x151006 x151007)))
def spec_ReadLine.j4 : Nat → List ByteArray → Int → Bool → Int → Int → Int → Int → Int → Int → Int → ByteArray → Int → Int → Int → Int → Int → Int → Int → ByteArray → Option (Int × Int × Int × Int × Int × Int × Int × ByteArray)
 | 0, _, _, _, _, _, _, _, _, _, _, _, _, _, _, _, _, _, _, _ => none
 | k + 1, x4, x11, x174, x134000, x134001, x134002, x134003, x134004, x134005, x134006, x134007, x151000, x151001, x151002, x151003, x151004, x151005, x151006, x151007 => if x174 = true then (if 0 ≤ x11 then (if x11 < (x4.length : Int) then (if (wrap64 (x11 + 1)) = (x4.length : Int) then (some (4, x151001, x151002, x151003, x151004, x151005, x151006, rdOf ByteArray.empty x4 x11)) else (some (x134000, x134001, x134002, x134003, x134004, x134005, x134006, x134007))) else (none)) else (none)) else (some (x134000, x134001, x134002, x134003, x134004, x134005, x134006, x134007))
end
def spec_ReadLine.f (k : Nat) (a0 : ByteArray) : Option (Int × Int × Int × Int × Int × Int × Int × ByteArray) := if (a0.size : Int) > 80 then (some (0, 0, 0, 0, 0, 0, 0, (⟨#[]⟩ : ByteArray))) else ((spec_l01Split.f k a0).bind fun t134 => (if (t134.length : Int) = 1 then (if 0 < (t134.length : Int) then (if ((rdOf ByteArray.empty t134 0).size : Int) > 1 then (if 0 ≤ (wrap64 (((rdOf ByteArray.empty t134 0).size : Int) - 1)) then (if (wrap64 (((rdOf ByteArray.empty t134 0).size : Int) - 1)) < ((rdOf ByteArray.empty t134 0).size : Int) then (spec_ReadLine.j0 k t134 ((bt (rdOf ByteArray.empty t134 0) (wrap64 (((rdOf ByteArray.empty t134 0).size : Int) - 1))) == 58) 0 0 0 0 0 0 0 (⟨#[]⟩ : ByteArray)) else (none)) else (none)) else (spec_ReadLine.j0 k t134 false 0 0 0 0 0 0 0 (⟨#[]⟩ : ByteArray))) else (none)) else (spec_ReadLine.j0 k t134 false 0 0 0 0 0 0 0 (⟨#[]⟩ : ByteArray))))
theorem spec_ReadLine.mono_l : ∀ k, (∀ y0 y1 y2 y3 y4 y5 y6 y7 y8 y9, LeO (spec_ReadLine.j0 k y0 y1 y2 y3 y4 y5 y6 y7 y8 y9) (spec_ReadLine.j0 (k + 1) y0 y1 y2 y3 y4 y5 y6 y7 y8 y9)) ∧ (∀ y0 y1 y2 y3 y4 y5 y6 y7 y8 y9 y10 y11 y12 y13 y14 y15 y16 y17 y18 y19 y20, LeO (spec_ReadLine.l0 k y0 y1 y2 y3 y4 y5 y6 y7 y8 y9 y10 y11 y12 y13 y14 y15 y16 y17 y18 y19 y20) (spec_ReadLine.l0 (k + 1) y0 y1 y2 y3 y4 y5 y6 y7 y8 y9 y10 y11 y12 y13 y14 y15 y16 y17 y18 y19 y20)) ∧ (∀ y0 y1 y2 y3 y4 y5 y6 y7 y8 y9 y10 y11 y12 y13 y14 y15 y16 y17 y18 y19 y20 y21, LeO (spec_ReadLine.j2 k y0 y1 y2 y3 y4 y5 y6 y7 y8 y9 y10 y11 y12 y13 y14 y15 y16 y17 y18 y19 y20 y21) (spec_ReadLine.j2 (k + 1) y0 y1 y2 y3 y4 y5 y6 y7 y8 y9 y10 y11 y12 y13 y14 y15 y16 y17 y18 y19 y20 y21)) ∧ (∀ y0 y1 y2 y3 y4 y5 y6 y7 y8 y9 y10 y11 y12 y13 y14 y15 y16 y17 y18 y19 y20, LeO (spec_ReadLine.j3 k y0 y1 y2 y3 y4 y5 y6 y7 y8 y9 y10 y11 y12 y13 y14 y15 y16 y17 y18 y19 y20) (spec_ReadLine.j3 (k + 1) y0 y1 y2 y3 y4 y5 y6 y7 y8 y9 y10 y11 y12 y13 y14 y15 y16 y17 y18 y19 y20)) ∧ (∀ y0 y1 y2 y3 y4 y5 y6 y7 y8 y9 y10 y11 y12 y13 y14 y15 y16 y17 y18, LeO (spec_ReadLine.j4 k y0 y1 y2 y3 y4 y5 y6 y7 y8 y9 y10 y11 y12 y13 y14 y15 y16 y17 y18) (spec_ReadLine.j4 (k + 1) y0 y1 y2 y3 y4 y5 y6 y7 y8 y9 y10 y11 y12 y13 y14 y15 y16 y17 y18))
 | 0 => ⟨fun _ _ _ _ _ _ _ _ _ _ r h => by simp [spec_ReadLine.j0] at h, fun _ _ _ _ _ _ _ _ _ _ _ _ _ _ _ _ _ _ _ _ _ r h => by simp [spec_ReadLine.l0] at h, fun _ _ _ _ _ _ _ _ _ _ _ _ _ _ _ _ _ _ _ _ _ _ r h => by simp [spec_ReadLine.j2] at h, fun _ _ _ _ _ _ _ _ _ _ _ _ _ _ _ _ _ _ _ _ _ r h => by simp [spec_ReadLine.j3] at h, fun _ _ _ _ _ _ _ _ _ _ _ _ _ _ _ _ _ _ _ r h => by simp [spec_ReadLine.j4] at h⟩
 | k + 1 => by
  obtain ⟨ih0, ih1, ih2, ih3, ih4⟩ := spec_ReadLine.mono_l k
  refine ⟨?_, ?_, ?_, ?_, ?_⟩
  · intro y0 y1 y2 y3 y4 y5 y6 y7 y8 y9
    unfold spec_ReadLine.j0
    repeat' first
    | (with_reducible exact ih0 _ _ _ _ _ _ _ _ _ _)
    | (with_reducible exact ih1 _ _ _ _ _ _ _ _ _ _ _ _ _ _ _ _ _ _ _ _ _)
    | (with_reducible exact ih2 _ _ _ _ _ _ _ _ _ _ _ _ _ _ _ _ _ _ _ _ _ _)
    | (with_reducible exact ih3 _ _ _ _ _ _ _ _ _ _ _ _ _ _ _ _ _ _ _ _ _)
    | (with_reducible exact ih4 _ _ _ _ _ _ _ _ _ _ _ _ _ _ _ _ _ _ _)
    | (with_reducible exact spec_DecNum.mono _ _ _)
    | (with_reducible exact spec_LabelOk.mono _ _)
    | (with_reducible exact spec_OpOf.mono _ _)
    | (with_reducible exact spec_l01Split.mono _ _)
    | (with_reducible exact spec_l03Reg.mono _ _)
    | (with_reducible exact LeO.refl _)
    | (with_reducible exact LeO.none _)
    | (with_reducible refine LeO.ite ?_ ?_)
    | (with_reducible refine LeO.bind ?_ (fun _ => ?_))
    | exact ih0 _ _ _ _ _ _ _ _ _ _
    | exact ih1 _ _ _ _ _ _ _ _ _ _ _ _ _ _ _ _ _ _ _ _ _
    | exact ih2 _ _ _ _ _ _ _ _ _ _ _ _ _ _ _ _ _ _ _ _ _ _
    | exact ih3 _ _ _ _ _ _ _ _ _ _ _ _ _ _ _ _ _ _ _ _ _
    | exact ih4 _ _ _ _ _ _ _ _ _ _ _ _ _ _ _ _ _ _ _
    | exact spec_DecNum.mono _ _ _
    | exact spec_LabelOk.mono _ _
    | exact spec_OpOf.mono _ _
    | exact spec_l01Split.mono _ _
    | exact spec_l03Reg.mono _ _
    | exact LeO.none _
    | refine LeO.ite ?_ ?_
    | refine LeO.bind ?_ (fun _ => ?_)
  · intro y0 y1 y2 y3 y4 y5 y6 y7 y8 y9 y10 y11 y12 y13 y14 y15 y16 y17 y18 y19 y20
    unfold spec_ReadLine.l0
    repeat' first
    | (with_reducible exact ih0 _ _ _ _ _ _ _ _ _ _)
    | (with_reducible exact ih1 _ _ _ _ _ _ _ _ _ _ _ _ _ _ _ _ _ _ _ _ _)
    | (with_reducible exact ih2 _ _ _ _ _ _ _ _ _ _ _ _ _ _ _ _ _ _ _ _ _ _)
    | (with_reducible exact ih3 _ _ _ _ _ _ _ _ _ _ _ _ _ _ _ _ _ _ _ _ _)
    | (with_reducible exact ih4 _ _ _ _ _ _ _ _ _ _ _ _ _ _ _ _ _ _ _)
    | (with_reducible exact spec_DecNum.mono _ _ _)
    | (with_reducible exact spec_LabelOk.mono _ _)
    | (with_reducible exact spec_OpOf.mono _ _)
    | (with_reducible exact spec_l01Split.mono _ _)
    | (with_reducible exact spec_l03Reg.mono _ _)
    | (with_reducible exact LeO.refl _)
    | (with_reducible exact LeO.none _)
    | (with_reducible refine LeO.ite ?_ ?_)
    | (with_reducible refine LeO.bind ?_ (fun _ => ?_))
    | exact ih0 _ _ _ _ _ _ _ _ _ _
    | exact ih1 _ _ _ _ _ _ _ _ _ _ _ _ _ _ _ _ _ _ _ _ _
    | exact ih2 _ _ _ _ _ _ _ _ _ _ _ _ _ _ _ _ _ _ _ _ _ _
    | exact ih3 _ _ _ _ _ _ _ _ _ _ _ _ _ _ _ _ _ _ _ _ _
    | exact ih4 _ _ _ _ _ _ _ _ _ _ _ _ _ _ _ _ _ _ _
    | exact spec_DecNum.mono _ _ _
    | exact spec_LabelOk.mono _ _
    | exact spec_OpOf.mono _ _
    | exact spec_l01Split.mono _ _
    | exact spec_l03Reg.mono _ _
    | exact LeO.none _
    | refine LeO.ite ?_ ?_
    | refine LeO.bind ?_ (fun _ => ?_)
  · intro y0 y1 y2 y3 y4 y5 y6 y7 y8 y9 y10 y11 y12 y13 y14 y15 y16 y17 y18 y19 y20 y21
    unfold spec_ReadLine.j2
    repeat' first
    | (with_reducible exact ih0 _ _ _ _ _ _ _ _ _ _)
    | (with_reducible exact ih1 _ _ _ _ _ _ _ _ _ _ _ _ _ _ _ _ _ _ _ _ _)
    | (with_reducible exact ih2 _ _ _ _ _ _ _ _ _ _ _ _ _ _ _ _ _ _ _ _ _ _)
    | (with_reducible exact ih3 _ _ _ _ _ _ _ _ _ _ _ _ _ _ _ _ _ _ _ _ _)
    | (with_reducible exact ih4 _ _ _ _ _ _ _ _ _ _ _ _ _ _ _ _ _ _ _)
    | (with_reducible exact spec_DecNum.mono _ _ _)
    | (with_reducible exact spec_LabelOk.mono _ _)
    | (with_reducible exact spec_OpOf.mono _ _)
    | (with_reducible exact spec_l01Split.mono _ _)
    | (with_reducible exact spec_l03Reg.mono _ _)
    | (with_reducible exact LeO.refl _)
    | (with_reducible exact LeO.none _)
    | (with_reducible refine LeO.ite ?_ ?_)
    | (with_reducible refine LeO.bind ?_ (fun _ => ?_))
    | exact ih0 _ _ _ _ _ _ _ _ _ _
    | exact ih1 _ _ _ _ _ _ _ _ _ _ _ _ _ _ _ _ _ _ _ _ _
    | exact ih2 _ _ _ _ _ _ _ _ _ _ _ _ _ _ _ _ _ _ _ _ _ _
    | exact ih3 _ _ _ _ _ _ _ _ _ _ _ _ _ _ _ _ _ _ _ _ _
    | exact ih4 _ _ _ _ _ _ _ _ _ _ _ _ _ _ _ _ _ _ _
    | exact spec_DecNum.mono _ _ _
    | exact spec_LabelOk.mono _ _
    | exact spec_OpOf.mono _ _
    | exact spec_l01Split.mono _ _
    | exact spec_l03Reg.mono _ _
    | exact LeO.none _
    | refine LeO.ite ?_ ?_
    | refine LeO.bind ?_ (fun _ => ?_)
  · intro y0 y1 y2 y3 y4 y5 y6 y7 y8 y9 y10 y11 y12 y13 y14 y15 y16 y17 y18 y19 y20
    unfold spec_ReadLine.j3
    repeat' first
    | (with_reducible exact ih0 _ _ _ _ _ _ _ _ _ _)
    | (with_reducible exact ih1 _ _ _ _ _ _ _ _ _ _ _ _ _ _ _ _ _ _ _ _ _)
    | (with_reducible exact ih2 _ _ _ _ _ _ _ _ _ _ _ _ _ _ _ _ _ _ _ _ _ _)
    | (with_reducible exact ih3 _ _ _ _ _ _ _ _ _ _ _ _ _ _ _ _ _ _ _ _ _)
    | (with_reducible exact ih4 _ _ _ _ _ _ _ _ _ _ _ _ _ _ _ _ _ _ _)
    | (with_reducible exact spec_DecNum.mono _ _ _)
    | (with_reducible exact spec_LabelOk.mono _ _)
    | (with_reducible exact spec_OpOf.mono _ _)
    | (with_reducible exact spec_l01Split.mono _ _)
    | (with_reducible exact spec_l03Reg.mono _ _)
    | (with_reducible exact LeO.refl _)
    | (with_reducible exact LeO.none _)
    | (with_reducible refine LeO.ite ?_ ?_)
    | (with_reducible refine LeO.bind ?_ (fun _ => ?_))
    | exact ih0 _ _ _ _ _ _ _ _ _ _
    | exact ih1 _ _ _ _ _ _ _ _ _ _ _ _ _ _ _ _ _ _ _ _ _
    | exact ih2 _ _ _ _ _ _ _ _ _ _ _ _ _ _ _ _ _ _ _ _ _ _
    | exact ih3 _ _ _ _ _ _ _ _ _ _ _ _ _ _ _ _ _ _ _ _ _
    | exact ih4 _ _ _ _ _ _ _ _ _ _ _ _ _ _ _ _ _ _ _
    | exact spec_DecNum.mono _ _ _
    | exact spec_LabelOk.mono _ _
    | exact spec_OpOf.mono _ _
    | exact spec_l01Split.mono _ _
    | exact spec_l03Reg.mono _ _
    | exact LeO.none _
    | refine LeO.ite ?_ ?_
    | refine LeO.bind ?_ (fun _ => ?_)
  · intro y0 y1 y2 y3 y4 y5 y6 y7 y8 y9 y10 y11 y12 y13 y14 y15 y16 y17 y18
    unfold spec_ReadLine.j4
    repeat' first
    | (with_reducible exact ih0 _ _ _ _ _ _ _ _ _ _)
    | (with_reducible exact ih1 _ _ _ _ _ _ _ _ _ _ _ _ _ _ _ _ _ _ _ _ _)
    | (with_reducible exact ih2 _ _ _ _ _ _ _ _ _ _ _ _ _ _ _ _ _ _ _ _ _ _)
    | (with_reducible exact ih3 _ _ _ _ _ _ _ _ _ _ _ _ _ _ _ _ _ _ _ _ _)
    | (with_reducible exact ih4 _ _ _ _ _ _ _ _ _ _ _ _ _ _ _ _ _ _ _)
    | (with_reducible exact spec_DecNum.mono _ _ _)
    | (with_reducible exact spec_LabelOk.mono _ _)
    | (with_reducible exact spec_OpOf.mono _ _)
    | (with_reducible exact spec_l01Split.mono _ _)
    | (with_reducible exact spec_l03Reg.mono _ _)
    | (with_reducible exact LeO.refl _)
    | (with_reducible exact LeO.none _)
    | (with_reducible refine LeO.ite ?_ ?_)
    | (with_reducible refine LeO.bind ?_ (fun _ => ?_))
    | exact ih0 _ _ _ _ _ _ _ _ _ _
    | exact ih1 _ _ _ _ _ _ _ _ _ _ _ _ _ _ _ _ _ _ _ _ _
    | exact ih2 _ _ _ _ _ _ _ _ _ _ _ _ _ _ _ _ _ _ _ _ _ _
    | exact ih3 _ _ _ _ _ _ _ _ _ _ _ _ _ _ _ _ _ _ _ _ _
    | exact ih4 _ _ _ _ _ _ _ _ _ _ _ _ _ _ _ _ _ _ _
    | exact spec_DecNum.mono _ _ _
    | exact spec_LabelOk.mono _ _
    | exact spec_OpOf.mono _ _
    | exact spec_l01Split.mono _ _
    | exact spec_l03Reg.mono _ _
    | exact LeO.none _
    | refine LeO.ite ?_ ?_
    | refine LeO.bind ?_ (fun _ => ?_)
theorem spec_ReadLine.mono : ∀ a0 k, LeO (spec_ReadLine.f k a0) (spec_ReadLine.f (k + 1) a0) := by
 intro a0 k
 obtain ⟨ih0, ih1, ih2, ih3, ih4⟩ := spec_ReadLine.mono_l k
 unfold spec_ReadLine.f
 repeat' first
  | (with_reducible exact ih0 _ _ _ _ _ _ _ _ _ _)
  | (with_reducible exact ih1 _ _ _ _ _ _ _ _ _ _ _ _ _ _ _ _ _ _ _ _ _)
  | (with_reducible exact ih2 _ _ _ _ _ _ _ _ _ _ _ _ _ _ _ _ _ _ _ _ _ _)
  | (with_reducible exact ih3 _ _ _ _ _ _ _ _ _ _ _ _ _ _ _ _ _ _ _ _ _)
  | (with_reducible exact ih4 _ _ _ _ _ _ _ _ _ _ _ _ _ _ _ _ _ _ _)
  | (with_reducible exact spec_DecNum.mono _ _ _)
  | (with_reducible exact spec_LabelOk.mono _ _)
  | (with_reducible exact spec_OpOf.mono _ _)
  | (with_reducible exact spec_l01Split.mono _ _)
  | (with_reducible exact spec_l03Reg.mono _ _)
  | (with_reducible exact LeO.refl _)
  | (with_reducible exact LeO.none _)
  | (with_reducible refine LeO.ite ?_ ?_)
  | (with_reducible refine LeO.bind ?_ (fun _ => ?_))
  | exact ih0 _ _ _ _ _ _ _ _ _ _
  | exact ih1 _ _ _ _ _ _ _ _ _ _ _ _ _ _ _ _ _ _ _ _ _
  | exact ih2 _ _ _ _ _ _ _ _ _ _ _ _ _ _ _ _ _ _ _ _ _ _
  | exact ih3 _ _ _ _ _ _ _ _ _ _ _ _ _ _ _ _ _ _ _ _ _
  | exact ih4 _ _ _ _ _ _ _ _ _ _ _ _ _ _ _ _ _ _ _
  | exact spec_DecNum.mono _ _ _
  | exact spec_LabelOk.mono _ _
  | exact spec_OpOf.mono _ _
  | exact spec_l01Split.mono _ _
  | exact spec_l03Reg.mono _ _
  | exact LeO.none _
  | refine LeO.ite ?_ ?_
  | refine LeO.bind ?_ (fun _ => ?_)
set_option maxHeartbeats 8000000 in
set_option maxRecDepth 100000 in
theorem spec_ReadLine.calls (k : Nat) (a0 : ByteArray) (r1 : Int) (r2 : Int) (r3 : Int) (r4 : Int) (r5 : Int) (r6 : Int) (r7 : Int) (r8 : ByteArray) (w : World) (h : spec_ReadLine.f k a0 = some (r1, r2, r3, r4, r5, r6, r7, r8)) :
 Calls Tryd.prog 17 #[.string a0] w fun e w' => e = .returned (.agg #[.int .i64 r1, .int .i64 r2, .int .i64 r3, .int .i64 r4, .int .i64 r5, .int .i64 r6, .int .u32 r7, .string r8]) ∧ Below w.heap.size w w' := by
 have hu33 := Tryd.underlying33
 have HB := Aside0.mk (Below.refl w.heap.size w)
 have H : (if (a0.size : Int) > 80 then (some (0, 0, 0, 0, 0, 0, 0, (⟨#[]⟩ : ByteArray))) else ((spec_l01Split.f k a0).bind fun t134 => (if (t134.length : Int) = 1 then (if 0 < (t134.length : Int) then (if ((rdOf ByteArray.empty t134 0).size : Int) > 1 then (if 0 ≤ (wrap64 (((rdOf ByteArray.empty t134 0).size : Int) - 1)) then (if (wrap64 (((rdOf ByteArray.empty t134 0).size : Int) - 1)) < ((rdOf ByteArray.empty t134 0).size : Int) then (spec_ReadLine.j0 k t134 ((bt (rdOf ByteArray.empty t134 0) (wrap64 (((rdOf ByteArray.empty t134 0).size : Int) - 1))) == 58) 0 0 0 0 0 0 0 (⟨#[]⟩ : ByteArray)) else (none)) else (none)) else (spec_ReadLine.j0 k t134 false 0 0 0 0 0 0 0 (⟨#[]⟩ : ByteArray))) else (none)) else (spec_ReadLine.j0 k t134 false 0 0 0 0 0 0 0 (⟨#[]⟩ : ByteArray))))) = some (r1, r2, r3, r4, r5, r6, r7, r8) := h
 clear h
 by_cases c2 : (a0.size : Int) > 80
 · rw [if_pos c2] at H
   have c2b0 : decide (80 < (a0.size : Int)) = true := decide_eq_true c2
   have c2b1 : decide (80 < a0.size) = true := decide_eq_true (by omega)
   clear c2
   simp only [Option.some.injEq, Prod.mk.injEq] at H
   obtain ⟨rfl, rfl, rfl, rfl, rfl, rfl, rfl, rfl⟩ := H
   go_enter Tryd.func17, Tryd.ntmps17
   go_wp2_with (first | ((with_reducible refine gate_dst (N := 2) rfl ?_); (try (refine gate_guard (by rfl) ?_; dsimp only)); refine box_event ?hg (N := 2) ?hd (cs := #[.int .i64 0, .int .i64 0, .int .i64 0, .int .i64 0, .int .i64 0, .int .i64 0, .int .u32 0, .string (⟨#[]⟩ : ByteArray)]) (t := 33) ?hr ?_; (case hd => rfl); (case hg => rfl); (case hr => first | (go_simp; done) | (go_simp; rfl)); intro gb132 hg w3 hbox hb; have n0_ := Aside0.mk (below_step (by repeat (first | (with_reducible first | exact HB.out | apply below_alloc | apply pw_below_drewN | apply below_drew1) | exact HB.out)) hb); have n1_ := Aside0.mk (hbox); have n2_ := Aside0.mk ((by rw [hg]; exact (below_size (by repeat (first | (with_reducible first | exact HB.out | apply below_alloc | apply pw_below_drewN | apply below_drew1) | exact HB.out))) : w.heap.size ≤ gb132)); have n3_ := Aside0.mk ((by rw [hg]; exact (below_size (by repeat (first | (with_reducible first | exact HB.out | apply below_alloc | apply pw_below_drewN | apply below_drew1) | exact HB.out))) : w.heap.size ≤ gb132)); clear HB; have HB := n0_; have BK132 := n1_; have GW132 := n2_; have GE132 := n3_; clear n0_ n1_ n2_ n3_; clear hb hbox hg) | ((with_reducible refine gate_dst (N := 3) rfl ?_); (try (refine gate_guard (by rfl) ?_; dsimp only)); refine box_event ?hg (N := 3) ?hd (cs := #[.int .i64 0, .int .i64 0, .int .i64 0, .int .i64 0, .int .i64 0, .int .i64 0, .int .u32 0, .string (⟨#[]⟩ : ByteArray)]) (t := 33) ?hr ?_; (case hd => rfl); (case hg => rfl); (case hr => first | (go_simp; done) | (go_simp; rfl)); intro gb133 hg w4 hbox hb; have n0_ := Aside0.mk (blk_below (g := gb132) (o := .cells #[.int .i64 0, .int .i64 0, .int .i64 0, .int .i64 0, .int .i64 0, .int .i64 0, .int .u32 0, .string (⟨#[]⟩ : ByteArray)] 33 (0, 0)) (by (with_reducible repeat (first | refine blk_drewN ?_ _ | refine blk_drew ?_ | refine blk_alloc ?_ _)); exact BK132.out) hb); have n1_ := Aside0.mk (below_step (by repeat (first | (with_reducible first | exact HB.out | apply below_alloc | apply pw_below_drewN | apply below_drew1 | refine below_set ?_ GE132.out) | exact HB.out)) hb); have n2_ := Aside0.mk (hbox); have n3_ := Aside0.mk ((by rw [hg]; exact (below_size (by repeat (first | (with_reducible first | exact HB.out | apply below_alloc | apply pw_below_drewN | apply below_drew1 | refine below_set ?_ GE132.out) | exact HB.out))) : w.heap.size ≤ gb133)); have n4_ := Aside0.mk ((by rw [hg]; exact (below_size (by repeat (first | (with_reducible first | exact HB.out | apply below_alloc | apply pw_below_drewN | apply below_drew1 | refine below_set ?_ GE132.out) | exact HB.out))) : w.heap.size ≤ gb133)); have n5_ := Aside0.mk ((by rw [hg]; exact Nat.ne_of_lt (blk_lt (g := gb132) (o := .cells #[.int .i64 0, .int .i64 0, .int .i64 0, .int .i64 0, .int .i64 0, .int .i64 0, .int .u32 0, .string (⟨#[]⟩ : ByteArray)] 33 (0, 0)) (by (with_reducible repeat (first | refine blk_drewN ?_ _ | refine blk_drew ?_ | refine blk_alloc ?_ _)); exact BK132.out)) : gb132 ≠ gb133)); have n6_ := Aside0.mk ((by rw [hg]; exact Nat.ne_of_gt (blk_lt (g := gb132) (o := .cells #[.int .i64 0, .int .i64 0, .int .i64 0, .int .i64 0, .int .i64 0, .int .i64 0, .int .u32 0, .string (⟨#[]⟩ : ByteArray)] 33 (0, 0)) (by (with_reducible repeat (first | refine blk_drewN ?_ _ | refine blk_drew ?_ | refine blk_alloc ?_ _)); exact BK132.out)) : gb133 ≠ gb132)); clear BK132; clear HB; have BK132 := n0_; have HB := n1_; have BK133 := n2_; have GW133 := n3_; have GE133 := n4_; have NB132_133 := n5_; have NB133_132 := n6_; clear n0_ n1_ n2_ n3_ n4_ n5_ n6_; clear hb hbox hg; have hnb5 := NB133_132.out; have hnc5 := NB132_133.out; have hcz6_0 : w4.cell? ⟨gb133, 0, none⟩ = some (.int .i64 0) := (blk_cell BK133.out 0).trans rfl; have hcz6_1 : w4.cell? ⟨gb133, 1, none⟩ = some (.int .i64 0) := (blk_cell BK133.out 1).trans rfl; have hcz6_2 : w4.cell? ⟨gb133, 2, none⟩ = some (.int .i64 0) := (blk_cell BK133.out 2).trans rfl; have hcz6_3 : w4.cell? ⟨gb133, 3, none⟩ = some (.int .i64 0) := (blk_cell BK133.out 3).trans rfl; have hcz6_4 : w4.cell? ⟨gb133, 4, none⟩ = some (.int .i64 0) := (blk_cell BK133.out 4).trans rfl; have hcz6_5 : w4.cell? ⟨gb133, 5, none⟩ = some (.int .i64 0) := (blk_cell BK133.out 5).trans rfl; have hcz6_6 : w4.cell? ⟨gb133, 6, none⟩ = some (.int .u32 0) := (blk_cell BK133.out 6).trans rfl; have hcz6_7 : w4.cell? ⟨gb133, 7, none⟩ = some (.string (⟨#[]⟩ : ByteArray)) := (blk_cell BK133.out 7).trans rfl; have hfz6_0 := blk_frozen BK133.out 0; have hfz6_1 := blk_frozen BK133.out 1; have hfz6_2 := blk_frozen BK133.out 2; have hfz6_3 := blk_frozen BK133.out 3; have hfz6_4 := blk_frozen BK133.out 4; have hfz6_5 := blk_frozen BK133.out 5; have hfz6_6 := blk_frozen BK133.out 6; have hfz6_7 := blk_frozen BK133.out 7; have hcz7_0 : w4.cell? ⟨gb132, 0, none⟩ = some (.int .i64 0) := (blk_cell BK132.out 0).trans rfl; have hcz7_1 : w4.cell? ⟨gb132, 1, none⟩ = some (.int .i64 0) := (blk_cell BK132.out 1).trans rfl; have hcz7_2 : w4.cell? ⟨gb132, 2, none⟩ = some (.int .i64 0) := (blk_cell BK132.out 2).trans rfl; have hcz7_3 : w4.cell? ⟨gb132, 3, none⟩ = some (.int .i64 0) := (blk_cell BK132.out 3).trans rfl; have hcz7_4 : w4.cell? ⟨gb132, 4, none⟩ = some (.int .i64 0) := (blk_cell BK132.out 4).trans rfl; have hcz7_5 : w4.cell? ⟨gb132, 5, none⟩ = some (.int .i64 0) := (blk_cell BK132.out 5).trans rfl; have hcz7_6 : w4.cell? ⟨gb132, 6, none⟩ = some (.int .u32 0) := (blk_cell BK132.out 6).trans rfl; have hcz7_7 : w4.cell? ⟨gb132, 7, none⟩ = some (.string (⟨#[]⟩ : ByteArray)) := (blk_cell BK132.out 7).trans rfl; have hfz7_0 := blk_frozen BK132.out 0; have hfz7_1 := blk_frozen BK132.out 1; have hfz7_2 := blk_frozen BK132.out 2; have hfz7_3 := blk_frozen BK132.out 3; have hfz7_4 := blk_frozen BK132.out 4; have hfz7_5 := blk_frozen BK132.out 5; have hfz7_6 := blk_frozen BK132.out 6; have hfz7_7 := blk_frozen BK132.out 7))
   refine bodyPost_ret (results_cell_row rfl _ _ gb132 33 #[.int .i64 0, .int .i64 0, .int .i64 0, .int .i64 0, .int .i64 0, .int .i64 0, .int .u32 0, .string (⟨#[]⟩ : ByteArray)] (0, 0) _ rfl (by (with_reducible repeat (first | refine blk_drewN ?_ _ | refine blk_drew ?_ | refine blk_alloc ?_ _)); refine blk_put (cs := #[.int .i64 0, .int .i64 0, .int .i64 0, .int .i64 0, .int .i64 0, .int .i64 0, .int .u32 0, .string (⟨#[]⟩ : ByteArray)]) ?_ 7 _ rfl; refine blk_put (cs := #[.int .i64 0, .int .i64 0, .int .i64 0, .int .i64 0, .int .i64 0, .int .i64 0, .int .u32 0, .string (⟨#[]⟩ : ByteArray)]) ?_ 6 _ rfl; refine blk_put (cs := #[.int .i64 0, .int .i64 0, .int .i64 0, .int .i64 0, .int .i64 0, .int .i64 0, .int .u32 0, .string (⟨#[]⟩ : ByteArray)]) ?_ 5 _ rfl; refine blk_put (cs := #[.int .i64 0, .int .i64 0, .int .i64 0, .int .i64 0, .int .i64 0, .int .i64 0, .int .u32 0, .string (⟨#[]⟩ : ByteArray)]) ?_ 4 _ rfl; refine blk_put (cs := #[.int .i64 0, .int .i64 0, .int .i64 0, .int .i64 0, .int .i64 0, .int .i64 0, .int .u32 0, .string (⟨#[]⟩ : ByteArray)]) ?_ 3 _ rfl; refine blk_put (cs := #[.int .i64 0, .int .i64 0, .int .i64 0, .int .i64 0, .int .i64 0, .int .i64 0, .int .u32 0, .string (⟨#[]⟩ : ByteArray)]) ?_ 2 _ rfl; refine blk_put (cs := #[.int .i64 0, .int .i64 0, .int .i64 0, .int .i64 0, .int .i64 0, .int .i64 0, .int .u32 0, .string (⟨#[]⟩ : ByteArray)]) ?_ 1 _ rfl; refine blk_put (cs := #[.int .i64 0, .int .i64 0, .int .i64 0, .int .i64 0, .int .i64 0, .int .i64 0, .int .u32 0, .string (⟨#[]⟩ : ByteArray)]) ?_ 0 _ rfl; (with_reducible repeat (first | refine blk_drewN ?_ _ | refine blk_drew ?_ | refine blk_alloc ?_ _)); refine blk_far ?_ NB132_133.out _; (with_reducible repeat (first | refine blk_drewN ?_ _ | refine blk_drew ?_ | refine blk_alloc ?_ _)); refine blk_far ?_ NB132_133.out _; (with_reducible repeat (first | refine blk_drewN ?_ _ | refine blk_drew ?_ | refine blk_alloc ?_ _)); refine blk_far ?_ NB132_133.out _; (with_reducible repeat (first | refine blk_drewN ?_ _ | refine blk_drew ?_ | refine blk_alloc ?_ _)); refine blk_far ?_ NB132_133.out _; (with_reducible repeat (first | refine blk_drewN ?_ _ | refine blk_drew ?_ | refine blk_alloc ?_ _)); refine blk_far ?_ NB132_133.out _; (with_reducible repeat (first | refine blk_drewN ?_ _ | refine blk_drew ?_ | refine blk_alloc ?_ _)); refine blk_far ?_ NB132_133.out _; (with_reducible repeat (first | refine blk_drewN ?_ _ | refine blk_drew ?_ | refine blk_alloc ?_ _)); refine blk_far ?_ NB132_133.out _; (with_reducible repeat (first | refine blk_drewN ?_ _ | refine blk_drew ?_ | refine blk_alloc ?_ _)); refine blk_far ?_ NB132_133.out _; (with_reducible repeat (first | refine blk_drewN ?_ _ | refine blk_drew ?_ | refine blk_alloc ?_ _)); exact BK132.out) Tryd.underlying33 rfl (by kernel_rfl)) rfl ?_
   exact ⟨by first | rfl | (simp [errW_none, errW_some] <;> rfl) | (simp [*, errW_none, errW_some] <;> rfl), by repeat (first | (with_reducible first | exact HB.out | apply below_alloc | apply pw_below_drewN | apply below_drew1 | refine below_set ?_ GE132.out | refine below_set ?_ GE133.out) | exact HB.out)⟩
 · rw [if_neg c2] at H
   have c2b0 : decide (80 < (a0.size : Int)) = false := decide_eq_false c2
   have c2b1 : decide (80 < a0.size) = false := decide_eq_false (by omega)
   clear c2
   replace H := Option.bind_eq_some_iff.mp H
   obtain ⟨t134, A80, H⟩ := H
   replace H : (if (t134.length : Int) = 1 then (if 0 < (t134.length : Int) then (if ((rdOf ByteArray.empty t134 0).size : Int) > 1 then (if 0 ≤ (wrap64 (((rdOf ByteArray.empty t134 0).size : Int) - 1)) then (if (wrap64 (((rdOf ByteArray.empty t134 0).size : Int) - 1)) < ((rdOf ByteArray.empty t134 0).size : Int) then (spec_ReadLine.j0 k t134 ((bt (rdOf ByteArray.empty t134 0) (wrap64 (((rdOf ByteArray.empty t134 0).size : Int) - 1))) == 58) 0 0 0 0 0 0 0 (⟨#[]⟩ : ByteArray)) else (none)) else (none)) else (spec_ReadLine.j0 k t134 false 0 0 0 0 0 0 0 (⟨#[]⟩ : ByteArray))) else (none)) else (spec_ReadLine.j0 k t134 false 0 0 0 0 0 0 0 (⟨#[]⟩ : ByteArray))) = some (r1, r2, r3, r4, r5, r6, r7, r8) := H
   have A8 := Aside0.mk A80
   clear A80
   have HC9 := Aside0.mk H
   clear H
   go_enter Tryd.func17, Tryd.ntmps17
   go_upto_region 5 with (first | ((with_reducible refine gate_dst (N := 2) rfl ?_); (try (refine gate_guard (by rfl) ?_; dsimp only)); refine box_event ?hg (N := 2) ?hd (cs := #[.int .i64 0, .int .i64 0, .int .i64 0, .int .i64 0, .int .i64 0, .int .i64 0, .int .u32 0, .string (⟨#[]⟩ : ByteArray)]) (t := 33) ?hr ?_; (case hd => rfl); (case hg => rfl); (case hr => first | (go_simp; done) | (go_simp; rfl)); intro gb132 hg w10 hbox hb; have n0_ := Aside0.mk (below_step (by repeat (first | (with_reducible first | exact HB.out | apply below_alloc | apply pw_below_drewN | apply below_drew1) | exact HB.out)) hb); have n1_ := Aside0.mk (hbox); have n2_ := Aside0.mk ((by rw [hg]; exact (below_size (by repeat (first | (with_reducible first | exact HB.out | apply below_alloc | apply pw_below_drewN | apply below_drew1) | exact HB.out))) : w.heap.size ≤ gb132)); have n3_ := Aside0.mk ((by rw [hg]; exact (below_size (by repeat (first | (with_reducible first | exact HB.out | apply below_alloc | apply pw_below_drewN | apply below_drew1) | exact HB.out))) : w.heap.size ≤ gb132)); clear HB; have HB := n0_; have BK132 := n1_; have GW132 := n2_; have GE132 := n3_; clear n0_ n1_ n2_ n3_; clear hb hbox hg) | ((with_reducible refine gate_dst (N := 3) rfl ?_); (try (refine gate_guard (by rfl) ?_; dsimp only)); refine box_event ?hg (N := 3) ?hd (cs := #[.int .i64 0, .int .i64 0, .int .i64 0, .int .i64 0, .int .i64 0, .int .i64 0, .int .u32 0, .string (⟨#[]⟩ : ByteArray)]) (t := 33) ?hr ?_; (case hd => rfl); (case hg => rfl); (case hr => first | (go_simp; done) | (go_simp; rfl)); intro gb133 hg w11 hbox hb; have n0_ := Aside0.mk (blk_below (g := gb132) (o := .cells #[.int .i64 0, .int .i64 0, .int .i64 0, .int .i64 0, .int .i64 0, .int .i64 0, .int .u32 0, .string (⟨#[]⟩ : ByteArray)] 33 (0, 0)) (by (with_reducible repeat (first | refine blk_drewN ?_ _ | refine blk_drew ?_ | refine blk_alloc ?_ _)); exact BK132.out) hb); have n1_ := Aside0.mk (below_step (by repeat (first | (with_reducible first | exact HB.out | apply below_alloc | apply pw_below_drewN | apply below_drew1 | refine below_set ?_ GE132.out) | exact HB.out)) hb); have n2_ := Aside0.mk (hbox); have n3_ := Aside0.mk ((by rw [hg]; exact (below_size (by repeat (first | (with_reducible first | exact HB.out | apply below_alloc | apply pw_below_drewN | apply below_drew1 | refine below_set ?_ GE132.out) | exact HB.out))) : w.heap.size ≤ gb133)); have n4_ := Aside0.mk ((by rw [hg]; exact (below_size (by repeat (first | (with_reducible first | exact HB.out | apply below_alloc | apply pw_below_drewN | apply below_drew1 | refine below_set ?_ GE132.out) | exact HB.out))) : w.heap.size ≤ gb133)); have n5_ := Aside0.mk ((by rw [hg]; exact Nat.ne_of_lt (blk_lt (g := gb132) (o := .cells #[.int .i64 0, .int .i64 0, .int .i64 0, .int .i64 0, .int .i64 0, .int .i64 0, .int .u32 0, .string (⟨#[]⟩ : ByteArray)] 33 (0, 0)) (by (with_reducible repeat (first | refine blk_drewN ?_ _ | refine blk_drew ?_ | refine blk_alloc ?_ _)); exact BK132.out)) : gb132 ≠ gb133)); have n6_ := Aside0.mk ((by rw [hg]; exact Nat.ne_of_gt (blk_lt (g := gb132) (o := .cells #[.int .i64 0, .int .i64 0, .int .i64 0, .int .i64 0, .int .i64 0, .int .i64 0, .int .u32 0, .string (⟨#[]⟩ : ByteArray)] 33 (0, 0)) (by (with_reducible repeat (first | refine blk_drewN ?_ _ | refine blk_drew ?_ | refine blk_alloc ?_ _)); exact BK132.out)) : gb133 ≠ gb132)); clear BK132; clear HB; have BK132 := n0_; have HB := n1_; have BK133 := n2_; have GW133 := n3_; have GE133 := n4_; have NB132_133 := n5_; have NB133_132 := n6_; clear n0_ n1_ n2_ n3_ n4_ n5_ n6_; clear hb hbox hg; have hnb12 := NB133_132.out; have hnc12 := NB132_133.out; have hcz13_0 : w11.cell? ⟨gb133, 0, none⟩ = some (.int .i64 0) := (blk_cell BK133.out 0).trans rfl; have hcz13_1 : w11.cell? ⟨gb133, 1, none⟩ = some (.int .i64 0) := (blk_cell BK133.out 1).trans rfl; have hcz13_2 : w11.cell? ⟨gb133, 2, none⟩ = some (.int .i64 0) := (blk_cell BK133.out 2).trans rfl; have hcz13_3 : w11.cell? ⟨gb133, 3, none⟩ = some (.int .i64 0) := (blk_cell BK133.out 3).trans rfl; have hcz13_4 : w11.cell? ⟨gb133, 4, none⟩ = some (.int .i64 0) := (blk_cell BK133.out 4).trans rfl; have hcz13_5 : w11.cell? ⟨gb133, 5, none⟩ = some (.int .i64 0) := (blk_cell BK133.out 5).trans rfl; have hcz13_6 : w11.cell? ⟨gb133, 6, none⟩ = some (.int .u32 0) := (blk_cell BK133.out 6).trans rfl; have hcz13_7 : w11.cell? ⟨gb133, 7, none⟩ = some (.string (⟨#[]⟩ : ByteArray)) := (blk_cell BK133.out 7).trans rfl; have hfz13_0 := blk_frozen BK133.out 0; have hfz13_1 := blk_frozen BK133.out 1; have hfz13_2 := blk_frozen BK133.out 2; have hfz13_3 := blk_frozen BK133.out 3; have hfz13_4 := blk_frozen BK133.out 4; have hfz13_5 := blk_frozen BK133.out 5; have hfz13_6 := blk_frozen BK133.out 6; have hfz13_7 := blk_frozen BK133.out 7) | (go_at_call 37; (with_reducible refine (spec_l01Split.calls k a0 t134 _ A8.out).mono ?_); rintro e w14 ⟨v135, rfl, ho0, hb⟩; have n0_ := Aside0.mk (Kd.R_lower ho0 (below_size (by repeat (first | (with_reducible first | exact HB.out | apply below_alloc | apply pw_below_drewN | apply below_drew1 | refine below_set ?_ GE132.out | refine below_set ?_ GE133.out) | exact HB.out)))); have n1_ := Aside0.mk (blk_below (g := gb132) (o := .cells #[.int .i64 0, .int .i64 0, .int .i64 0, .int .i64 0, .int .i64 0, .int .i64 0, .int .u32 0, .string (⟨#[]⟩ : ByteArray)] 33 (0, 0)) (by (with_reducible repeat (first | refine blk_drewN ?_ _ | refine blk_drew ?_ | refine blk_alloc ?_ _)); refine blk_far ?_ NB132_133.out _; (with_reducible repeat (first | refine blk_drewN ?_ _ | refine blk_drew ?_ | refine blk_alloc ?_ _)); refine blk_far ?_ NB132_133.out _; (with_reducible repeat (first | refine blk_drewN ?_ _ | refine blk_drew ?_ | refine blk_alloc ?_ _)); refine blk_far ?_ NB132_133.out _; (with_reducible repeat (first | refine blk_drewN ?_ _ | refine blk_drew ?_ | refine blk_alloc ?_ _)); refine blk_far ?_ NB132_133.out _; (with_reducible repeat (first | refine blk_drewN ?_ _ | refine blk_drew ?_ | refine blk_alloc ?_ _)); refine blk_far ?_ NB132_133.out _; (with_reducible repeat (first | refine blk_drewN ?_ _ | refine blk_drew ?_ | refine blk_alloc ?_ _)); refine blk_far ?_ NB132_133.out _; (with_reducible repeat (first | refine blk_drewN ?_ _ | refine blk_drew ?_ | refine blk_alloc ?_ _)); refine blk_far ?_ NB132_133.out _; (with_reducible repeat (first | refine blk_drewN ?_ _ | refine blk_drew ?_ | refine blk_alloc ?_ _)); refine blk_far ?_ NB132_133.out _; (with_reducible repeat (first | refine blk_drewN ?_ _ | refine blk_drew ?_ | refine blk_alloc ?_ _)); exact BK132.out) hb); have n2_ := Aside0.mk (blk_below (g := gb133) (o := .cells #[.int .i64 0, .int .i64 0, .int .i64 0, .int .i64 0, .int .i64 0, .int .i64 0, .int .u32 0, .string (⟨#[]⟩ : ByteArray)] 33 (0, 0)) (by (with_reducible repeat (first | refine blk_drewN ?_ _ | refine blk_drew ?_ | refine blk_alloc ?_ _)); refine blk_put (cs := #[.int .i64 0, .int .i64 0, .int .i64 0, .int .i64 0, .int .i64 0, .int .i64 0, .int .u32 0, .string (⟨#[]⟩ : ByteArray)]) ?_ 7 _ rfl; refine blk_put (cs := #[.int .i64 0, .int .i64 0, .int .i64 0, .int .i64 0, .int .i64 0, .int .i64 0, .int .u32 0, .string (⟨#[]⟩ : ByteArray)]) ?_ 6 _ rfl; refine blk_put (cs := #[.int .i64 0, .int .i64 0, .int .i64 0, .int .i64 0, .int .i64 0, .int .i64 0, .int .u32 0, .string (⟨#[]⟩ : ByteArray)]) ?_ 5 _ rfl; refine blk_put (cs := #[.int .i64 0, .int .i64 0, .int .i64 0, .int .i64 0, .int .i64 0, .int .i64 0, .int .u32 0, .string (⟨#[]⟩ : ByteArray)]) ?_ 4 _ rfl; refine blk_put (cs := #[.int .i64 0, .int .i64 0, .int .i64 0, .int .i64 0, .int .i64 0, .int .i64 0, .int .u32 0, .string (⟨#[]⟩ : ByteArray)]) ?_ 3 _ rfl; refine blk_put (cs := #[.int .i64 0, .int .i64 0, .int .i64 0, .int .i64 0, .int .i64 0, .int .i64 0, .int .u32 0, .string (⟨#[]⟩ : ByteArray)]) ?_ 2 _ rfl; refine blk_put (cs := #[.int .i64 0, .int .i64 0, .int .i64 0, .int .i64 0, .int .i64 0, .int .i64 0, .int .u32 0, .string (⟨#[]⟩ : ByteArray)]) ?_ 1 _ rfl; refine blk_put (cs := #[.int .i64 0, .int .i64 0, .int .i64 0, .int .i64 0, .int .i64 0, .int .i64 0, .int .u32 0, .string (⟨#[]⟩ : ByteArray)]) ?_ 0 _ rfl; (with_reducible repeat (first | refine blk_drewN ?_ _ | refine blk_drew ?_ | refine blk_alloc ?_ _)); exact BK133.out) hb); have n3_ := Aside0.mk (below_step (by repeat (first | (with_reducible first | exact HB.out | apply below_alloc | apply pw_below_drewN | apply below_drew1 | refine below_set ?_ GE132.out | refine below_set ?_ GE133.out) | exact HB.out)) hb); clear BK132; clear BK133; clear HB; have HO136 := n0_; have BK132 := n1_; have BK133 := n2_; have HB := n3_; clear n0_ n1_ n2_ n3_; (try clear hb); (try clear hb2); (try clear hk); (try clear hi); (try clear ho0)))
   (try simp only [Act.put, List.setIfInBounds_toArray, List.set_cons_zero, List.set_cons_succ])
   go_cut [44] (fun v44 wc => ∃ (kq : Nat) (x44_8 : Bool), v44 = .bool x44_8 ∧ Aside0 (spec_ReadLine.j0 kq t134 x44_8 0 0 0 0 0 0 0 (⟨#[]⟩ : ByteArray) = some (r1, r2, r3, r4, r5, r6, r7, r8)) ∧ Aside0 (kq ≤ k) ∧ Aside0 (Kd.R Kd.string 9 wc w.heap.size (fun _ => True) v135 t134) ∧ Aside0 (wc.heap[gb132]? = some (.cells #[.int .i64 0, .int .i64 0, .int .i64 0, .int .i64 0, .int .i64 0, .int .i64 0, .int .u32 0, .string (⟨#[]⟩ : ByteArray)] 33 (0, 0))) ∧ Aside0 (wc.heap[gb133]? = some (.cells #[.int .i64 0, .int .i64 0, .int .i64 0, .int .i64 0, .int .i64 0, .int .i64 0, .int .u32 0, .string (⟨#[]⟩ : ByteArray)] 33 (0, 0))) ∧ Aside0 (Below w.heap.size w wc))
   case first =>
    have H := HC9.out
    clear HC9
    by_cases c15 : (t134.length : Int) = 1
    · rw [if_pos c15] at H
      have c15b0 : ((t134.length : Int) == 1) = true := beq_iff_eq.mpr c15
      have c15b1 : ((t134.length : Int) != 1) = false := bne_eq_false_iff_eq.mpr c15
      clear c15
      (first | rw [c15b0] | (simp only [i64_w, i32_w]; rw [c15b0]) | skip)
      by_cases c16 : 0 < (t134.length : Int)
      · rw [if_pos c16] at H
        have c16b0 : decide (0 < (t134.length : Int)) = true := decide_eq_true c16
        have c16b1 : decide (0 < t134.length) = true := decide_eq_true (by omega)
        clear c16
        by_cases c17 : ((rdOf ByteArray.empty t134 0).size : Int) > 1
        · rw [if_pos c17] at H
          have c17b0 : decide (1 < ((rdOf ByteArray.empty t134 0).size : Int)) = true := decide_eq_true c17
          have c17b1 : decide (1 < (rdOf ByteArray.empty t134 0).size) = true := decide_eq_true (by omega)
          clear c17
          obtain ⟨ji18, hji18⟩ : ∃ j_ : Int, (wrap64 (((rdOf ByteArray.empty t134 0).size : Int) - 1)) = j_ := ⟨_, rfl⟩
          replace H : (if 0 ≤ (ji18) then (if (ji18) < ((rdOf ByteArray.empty t134 0).size : Int) then (spec_ReadLine.j0 k t134 ((bt (rdOf ByteArray.empty t134 0) (ji18)) == 58) 0 0 0 0 0 0 0 (⟨#[]⟩ : ByteArray)) else (none)) else (none)) = some (r1, r2, r3, r4, r5, r6, r7, r8) := by first | (rw [hji18] at H; exact H) | (simp only [hji18] at H ⊢; exact H)
          have hji18w : (IntKind.i64.wrap (((rdOf ByteArray.empty t134 0).size : Int) - 1)) = ji18 := (i64_w _).trans hji18
          by_cases c19 : 0 ≤ (ji18)
          · rw [if_pos c19] at H
            have c19b0 : decide (0 ≤ (ji18)) = true := decide_eq_true c19
            clear c19
            by_cases c20 : (ji18) < ((rdOf ByteArray.empty t134 0).size : Int)
            · rw [if_pos c20] at H
              have c20b0 : decide ((ji18) < ((rdOf ByteArray.empty t134 0).size : Int)) = true := decide_eq_true c20
              clear c20
              have H' := Aside0.mk H
              clear H
              obtain ⟨Ao22, co22, eo22⟩ := Kd.R_slice HO136.out
              subst eo22
              have p137 : 0 ≤ (0 : Int) := (by omega)
              have q137 : 0 < (t134.length : Int) := of_decide_eq_true (by first | (with_reducible assumption) | assumption)
              obtain ⟨ad137, e137, hx137_0⟩ := Kd.at_string (Kd.R_reads' HO136.out).2.2 0 p137 q137
              cases e137
              have qi137 : (0 < t134.length) = True := eq_true (by omega)
              (try rw [show ((0 : Int)).toNat = 0 from rfl] at hx137_0)
              (try rw [Addr.add_zero'] at hx137_0)
              replace p137 := eq_true p137
              replace q137 := eq_true q137
              have p138 : 0 ≤ (0 : Int) := (by omega)
              have q138 : 0 < (t134.length : Int) := of_decide_eq_true (by first | (with_reducible assumption) | assumption)
              obtain ⟨ad138, e138, hx138_0⟩ := Kd.at_string (Kd.R_reads' HO136.out).2.2 0 p138 q138
              obtain rfl : ad137 = ad138 := (by injection e138)
              have qi138 : (0 < t134.length) = True := eq_true (by omega)
              (try rw [show ((0 : Int)).toNat = 0 from rfl] at hx138_0)
              (try rw [Addr.add_zero'] at hx138_0)
              replace p138 := eq_true p138
              replace q138 := eq_true q138
              have p139 : 0 ≤ (0 : Int) := (by omega)
              have q139 : 0 < (t134.length : Int) := of_decide_eq_true (by first | (with_reducible assumption) | assumption)
              obtain ⟨ad139, e139, hx139_0⟩ := Kd.at_string (Kd.R_reads' HO136.out).2.2 0 p139 q139
              obtain rfl : ad137 = ad139 := (by injection e139)
              have qi139 : (0 < t134.length) = True := eq_true (by omega)
              (try rw [show ((0 : Int)).toNat = 0 from rfl] at hx139_0)
              (try rw [Addr.add_zero'] at hx139_0)
              replace p139 := eq_true p139
              replace q139 := eq_true q139
              have p21 : 0 ≤ ((ji18) : Int) := of_decide_eq_true (by first | (with_reducible assumption) | assumption)
              have q21 : (ji18) < ((rdOf ByteArray.empty t134 0).size : Int) := of_decide_eq_true (by first | (with_reducible assumption) | assumption)
              have hx21 := bt_at (rdOf ByteArray.empty t134 0) (ji18)
              replace p21 := eq_true p21
              replace q21 := eq_true q21
              go_wp2
              repeat (go_quiet (fail); try go_wp2)
              go_meet
              case rel => exact ⟨_, (((bt (rdOf ByteArray.empty t134 0) (ji18)) == 58)), (by first | rfl | (simp; done) | (simp only [← hji18] <;> (first | rfl | simp)) | (simp [*]; done)), H', ⟨by first | omega | exact Nat.le_refl _⟩, ⟨by (with_reducible repeat (first | apply Kd.R_alloc | apply Kd.R_drewN | apply Kd.R_drew)); exact HO136.out⟩, ⟨by (with_reducible repeat (first | refine blk_drewN ?_ _ | refine blk_drew ?_ | refine blk_alloc ?_ _)); exact BK132.out⟩, ⟨by (with_reducible repeat (first | refine blk_drewN ?_ _ | refine blk_drew ?_ | refine blk_alloc ?_ _)); exact BK133.out⟩, ⟨by repeat (first | (with_reducible first | exact HB.out | apply below_alloc | apply pw_below_drewN | apply below_drew1 | refine below_set ?_ GE132.out | refine below_set ?_ GE133.out) | exact HB.out)⟩⟩
            · rw [if_neg c20] at H
              exact absurd H (by simp)
          · rw [if_neg c19] at H
            exact absurd H (by simp)
        · rw [if_neg c17] at H
          have c17b0 : decide (1 < ((rdOf ByteArray.empty t134 0).size : Int)) = false := decide_eq_false c17
          have c17b1 : decide (1 < (rdOf ByteArray.empty t134 0).size) = false := decide_eq_false (by omega)
          clear c17
          have H' := Aside0.mk H
          clear H
          obtain ⟨Ao23, co23, eo23⟩ := Kd.R_slice HO136.out
          subst eo23
          have p137 : 0 ≤ (0 : Int) := (by omega)
          have q137 : 0 < (t134.length : Int) := of_decide_eq_true (by first | (with_reducible assumption) | assumption)
          obtain ⟨ad137, e137, hx137_0⟩ := Kd.at_string (Kd.R_reads' HO136.out).2.2 0 p137 q137
          cases e137
          have qi137 : (0 < t134.length) = True := eq_true (by omega)
          (try rw [show ((0 : Int)).toNat = 0 from rfl] at hx137_0)
          (try rw [Addr.add_zero'] at hx137_0)
          replace p137 := eq_true p137
          replace q137 := eq_true q137
          go_wp2
          repeat (go_quiet (fail); try go_wp2)
          go_meet
          case rel => exact ⟨_, (false), (by first | rfl | (simp; done) | (simp [*]; done)), H', ⟨by first | omega | exact Nat.le_refl _⟩, ⟨by (with_reducible repeat (first | apply Kd.R_alloc | apply Kd.R_drewN | apply Kd.R_drew)); exact HO136.out⟩, ⟨by (with_reducible repeat (first | refine blk_drewN ?_ _ | refine blk_drew ?_ | refine blk_alloc ?_ _)); exact BK132.out⟩, ⟨by (with_reducible repeat (first | refine blk_drewN ?_ _ | refine blk_drew ?_ | refine blk_alloc ?_ _)); exact BK133.out⟩, ⟨by repeat (first | (with_reducible first | exact HB.out | apply below_alloc | apply pw_below_drewN | apply below_drew1 | refine below_set ?_ GE132.out | refine below_set ?_ GE133.out) | exact HB.out)⟩⟩
      · rw [if_neg c16] at H
        exact absurd H (by simp)
    · rw [if_neg c15] at H
      have c15b0 : ((t134.length : Int) == 1) = false := beq_eq_false_iff_ne.mpr c15
      have c15b1 : ((t134.length : Int) != 1) = true := bne_iff_ne.mpr c15
      (first | rw [c15b0] | (simp only [i64_w, i32_w]; rw [c15b0]) | skip)
      have H' := Aside0.mk H
      clear H
      obtain ⟨Ao24, co24, eo24⟩ := Kd.R_slice HO136.out
      subst eo24
      go_wp2
      repeat (go_quiet (fail); try go_wp2)
      go_meet
      case rel => exact ⟨_, (false), (by first | rfl | (simp; done) | (simp [*]; done)), H', ⟨by first | omega | exact Nat.le_refl _⟩, ⟨by (with_reducible repeat (first | apply Kd.R_alloc | apply Kd.R_drewN | apply Kd.R_drew)); exact HO136.out⟩, ⟨by (with_reducible repeat (first | refine blk_drewN ?_ _ | refine blk_drew ?_ | refine blk_alloc ?_ _)); exact BK132.out⟩, ⟨by (with_reducible repeat (first | refine blk_drewN ?_ _ | refine blk_drew ?_ | refine blk_alloc ?_ _)); exact BK133.out⟩, ⟨by repeat (first | (with_reducible first | exact HB.out | apply below_alloc | apply pw_below_drewN | apply below_drew1 | refine below_set ?_ GE132.out | refine below_set ?_ GE133.out) | exact HB.out)⟩⟩
   case rest =>
    clear HC9
    try clear c1
    try clear p1
    try clear q1
    try clear hx1
    try clear qi1
    try clear c2
    try clear c2b0
    try clear c2b1
    try clear p2
    try clear q2
    try clear hx2
    try clear c5
    try clear p6
    try clear c12
    try clear p13
    try clear q13
    try clear hx13
    try clear qi13
    try clear c15
    try clear c15b0
    try clear c15b1
    try clear c16
    try clear c16b0
    try clear c16b1
    try clear c17
    try clear c17b0
    try clear c17b1
    try clear c19
    try clear c19b0
    try clear c20
    try clear c20b0
    try clear p21
    try clear q21
    try clear hx21
    try clear hx137_0
    try clear hx138_0
    try clear hx139_0
    try clear p137
    try clear p138
    try clear p139
    try clear p21
    try clear q137
    try clear q138
    try clear q139
    try clear q21
    obtain ⟨kq, x44_8, rfl, HA, HJ8, HO_4, BK132, BK133, HB⟩ := hcut
    cases kq with
    | zero => exact absurd HA.out (by simp [spec_ReadLine.j0])
    | succ kj8 =>
     have H := HA.out
     clear HA
     simp only [spec_ReadLine.j0] at H
     by_cases c25 : x44_8 = true
     · subst c25
       have H1 : (if 0 < (t134.length : Int) then (if 0 ≤ (wrap64 (((rdOf ByteArray.empty t134 0).size : Int) - 1)) then (if (wrap64 (((rdOf ByteArray.empty t134 0).size : Int) - 1)) ≤ ((rdOf ByteArray.empty t134 0).size : Int) then ((spec_LabelOk.f kj8 ((rdOf ByteArray.empty t134 0).extract 0 ((wrap64 (((rdOf ByteArray.empty t134 0).size : Int) - 1)) : Int).toNat)).bind fun t142 => (if t142 = true then (some (1, 0, 0, 0, 0, 0, 0, (rdOf ByteArray.empty t134 0).extract 0 ((wrap64 (((rdOf ByteArray.empty t134 0).size : Int) - 1)) : Int).toNat)) else (some (0, 0, 0, 0, 0, 0, 0, (⟨#[]⟩ : ByteArray))))) else (none)) else (none)) else (none)) = some (r1, r2, r3, r4, r5, r6, r7, r8) := by rw [if_pos rfl] at H; exact H
       clear H
       have H := H1
       clear H1
       by_cases c26 : 0 < (t134.length : Int)
       · rw [if_pos c26] at H
         have c26b0 : decide (0 < (t134.length : Int)) = true := decide_eq_true c26
         have c26b1 : decide (0 < t134.length) = true := decide_eq_true (by omega)
         clear c26
         obtain ⟨ji27, hji27⟩ : ∃ j_ : Int, (wrap64 (((rdOf ByteArray.empty t134 0).size : Int) - 1)) = j_ := ⟨_, rfl⟩
         replace H : (if 0 ≤ (ji27) then (if (ji27) ≤ ((rdOf ByteArray.empty t134 0).size : Int) then ((spec_LabelOk.f kj8 ((rdOf ByteArray.empty t134 0).extract 0 ((ji27) : Int).toNat)).bind fun t142 => (if t142 = true then (some (1, 0, 0, 0, 0, 0, 0, (rdOf ByteArray.empty t134 0).extract 0 ((ji27) : Int).toNat)) else (some (0, 0, 0, 0, 0, 0, 0, (⟨#[]⟩ : ByteArray))))) else (none)) else (none)) = some (r1, r2, r3, r4, r5, r6, r7, r8) := by first | (rw [hji27] at H; exact H) | (simp only [hji27] at H ⊢; exact H)
         have hji27w : (IntKind.i64.wrap (((rdOf ByteArray.empty t134 0).size : Int) - 1)) = ji27 := (i64_w _).trans hji27
         by_cases c28 : 0 ≤ (ji27)
         · rw [if_pos c28] at H
           have c28b0 := eq_true c28
           have c28b1 : decide (0 ≤ (ji27)) = true := decide_eq_true c28
           clear c28
           by_cases c29 : (ji27) ≤ ((rdOf ByteArray.empty t134 0).size : Int)
           · rw [if_pos c29] at H
             have c29b0 := eq_true c29
             have c29b1 : decide ((ji27) ≤ ((rdOf ByteArray.empty t134 0).size : Int)) = true := decide_eq_true c29
             clear c29
             replace H := Option.bind_eq_some_iff.mp H
             obtain ⟨t142, A300, H⟩ := H
             replace H : (if t142 = true then (some (1, 0, 0, 0, 0, 0, 0, (rdOf ByteArray.empty t134 0).extract 0 ((ji27) : Int).toNat)) else (some (0, 0, 0, 0, 0, 0, 0, (⟨#[]⟩ : ByteArray)))) = some (r1, r2, r3, r4, r5, r6, r7, r8) := H
             have A30 := Aside0.mk A300
             clear A300
             by_cases c31 : t142 = true
             · subst c31
               have H1 : (some (1, 0, 0, 0, 0, 0, 0, (rdOf ByteArray.empty t134 0).extract 0 ((ji27) : Int).toNat)) = some (r1, r2, r3, r4, r5, r6, r7, r8) := by rw [if_pos rfl] at H; exact H
               clear H
               have H := H1
               clear H1
               simp only [Option.some.injEq, Prod.mk.injEq] at H
               obtain ⟨rfl, rfl, rfl, rfl, rfl, rfl, rfl, rfl⟩ := H
               obtain ⟨Ao32, co32, eo32⟩ := Kd.R_slice HO_4.out
               subst eo32
               have p140 : 0 ≤ (0 : Int) := (by omega)
               have q140 : 0 < (t134.length : Int) := of_decide_eq_true (by first | (with_reducible assumption) | assumption)
               obtain ⟨ad140, e140, hx140_0⟩ := Kd.at_string (Kd.R_reads' HO_4.out).2.2 0 p140 q140
               cases e140
               have qi140 : (0 < t134.length) = True := eq_true (by omega)
               (try rw [show ((0 : Int)).toNat = 0 from rfl] at hx140_0)
               (try rw [Addr.add_zero'] at hx140_0)
               replace p140 := eq_true p140
               replace q140 := eq_true q140
               have p141 : 0 ≤ (0 : Int) := (by omega)
               have q141 : 0 < (t134.length : Int) := of_decide_eq_true (by first | (with_reducible assumption) | assumption)
               obtain ⟨ad141, e141, hx141_0⟩ := Kd.at_string (Kd.R_reads' HO_4.out).2.2 0 p141 q141
               obtain rfl : ad140 = ad141 := (by injection e141)
               have qi141 : (0 < t134.length) = True := eq_true (by omega)
               (try rw [show ((0 : Int)).toNat = 0 from rfl] at hx141_0)
               (try rw [Addr.add_zero'] at hx141_0)
               replace p141 := eq_true p141
               replace q141 := eq_true q141
               go_wp2_with (first | (go_at_call 38; (with_reducible refine (spec_LabelOk.calls kj8 ((rdOf ByteArray.empty t134 0).extract 0 ((ji27) : Int).toNat) true _ A30.out).mono ?_); rintro e w' ⟨rfl, ⟨nd, rfl⟩⟩; (try first | exact ⟨rfl, _, World.drewN_drewN _ _ _⟩ | exact ⟨rfl, _, Eq.trans (World.drewN_drewN _ _ _) (congrArg (World.drewN _) (Nat.add_assoc _ _ _))⟩); have hnb33 := NB132_133.out; have hnc33 := NB133_132.out; have hcz34_0 : wc.cell? ⟨gb132, 0, none⟩ = some (.int .i64 0) := (blk_cell BK132.out 0).trans rfl; have hcz34_1 : wc.cell? ⟨gb132, 1, none⟩ = some (.int .i64 0) := (blk_cell BK132.out 1).trans rfl; have hcz34_2 : wc.cell? ⟨gb132, 2, none⟩ = some (.int .i64 0) := (blk_cell BK132.out 2).trans rfl; have hcz34_3 : wc.cell? ⟨gb132, 3, none⟩ = some (.int .i64 0) := (blk_cell BK132.out 3).trans rfl; have hcz34_4 : wc.cell? ⟨gb132, 4, none⟩ = some (.int .i64 0) := (blk_cell BK132.out 4).trans rfl; have hcz34_5 : wc.cell? ⟨gb132, 5, none⟩ = some (.int .i64 0) := (blk_cell BK132.out 5).trans rfl; have hcz34_6 : wc.cell? ⟨gb132, 6, none⟩ = some (.int .u32 0) := (blk_cell BK132.out 6).trans rfl; have hcz34_7 : wc.cell? ⟨gb132, 7, none⟩ = some (.string (⟨#[]⟩ : ByteArray)) := (blk_cell BK132.out 7).trans rfl; have hfz34_0 := blk_frozen BK132.out 0; have hfz34_1 := blk_frozen BK132.out 1; have hfz34_2 := blk_frozen BK132.out 2; have hfz34_3 := blk_frozen BK132.out 3; have hfz34_4 := blk_frozen BK132.out 4; have hfz34_5 := blk_frozen BK132.out 5; have hfz34_6 := blk_frozen BK132.out 6; have hfz34_7 := blk_frozen BK132.out 7))
               repeat (go_quiet (first | (go_at_call 38; (with_reducible refine (spec_LabelOk.calls kj8 ((rdOf ByteArray.empty t134 0).extract 0 ((ji27) : Int).toNat) true _ A30.out).mono ?_); rintro e w' ⟨rfl, ⟨nd, rfl⟩⟩; (try first | exact ⟨rfl, _, World.drewN_drewN _ _ _⟩ | exact ⟨rfl, _, Eq.trans (World.drewN_drewN _ _ _) (congrArg (World.drewN _) (Nat.add_assoc _ _ _))⟩); have hnb33 := NB132_133.out; have hnc33 := NB133_132.out; have hcz34_0 : wc.cell? ⟨gb132, 0, none⟩ = some (.int .i64 0) := (blk_cell BK132.out 0).trans rfl; have hcz34_1 : wc.cell? ⟨gb132, 1, none⟩ = some (.int .i64 0) := (blk_cell BK132.out 1).trans rfl; have hcz34_2 : wc.cell? ⟨gb132, 2, none⟩ = some (.int .i64 0) := (blk_cell BK132.out 2).trans rfl; have hcz34_3 : wc.cell? ⟨gb132, 3, none⟩ = some (.int .i64 0) := (blk_cell BK132.out 3).trans rfl; have hcz34_4 : wc.cell? ⟨gb132, 4, none⟩ = some (.int .i64 0) := (blk_cell BK132.out 4).trans rfl; have hcz34_5 : wc.cell? ⟨gb132, 5, none⟩ = some (.int .i64 0) := (blk_cell BK132.out 5).trans rfl; have hcz34_6 : wc.cell? ⟨gb132, 6, none⟩ = some (.int .u32 0) := (blk_cell BK132.out 6).trans rfl; have hcz34_7 : wc.cell? ⟨gb132, 7, none⟩ = some (.string (⟨#[]⟩ : ByteArray)) := (blk_cell BK132.out 7).trans rfl; have hfz34_0 := blk_frozen BK132.out 0; have hfz34_1 := blk_frozen BK132.out 1; have hfz34_2 := blk_frozen BK132.out 2; have hfz34_3 := blk_frozen BK132.out 3; have hfz34_4 := blk_frozen BK132.out 4; have hfz34_5 := blk_frozen BK132.out 5; have hfz34_6 := blk_frozen BK132.out 6; have hfz34_7 := blk_frozen BK132.out 7)); try go_wp2_with (first | (go_at_call 38; (with_reducible refine (spec_LabelOk.calls kj8 ((rdOf ByteArray.empty t134 0).extract 0 ((ji27) : Int).toNat) true _ A30.out).mono ?_); rintro e w' ⟨rfl, ⟨nd, rfl⟩⟩; (try first | exact ⟨rfl, _, World.drewN_drewN _ _ _⟩ | exact ⟨rfl, _, Eq.trans (World.drewN_drewN _ _ _) (congrArg (World.drewN _) (Nat.add_assoc _ _ _))⟩); have hnb33 := NB132_133.out; have hnc33 := NB133_132.out; have hcz34_0 : wc.cell? ⟨gb132, 0, none⟩ = some (.int .i64 0) := (blk_cell BK132.out 0).trans rfl; have hcz34_1 : wc.cell? ⟨gb132, 1, none⟩ = some (.int .i64 0) := (blk_cell BK132.out 1).trans rfl; have hcz34_2 : wc.cell? ⟨gb132, 2, none⟩ = some (.int .i64 0) := (blk_cell BK132.out 2).trans rfl; have hcz34_3 : wc.cell? ⟨gb132, 3, none⟩ = some (.int .i64 0) := (blk_cell BK132.out 3).trans rfl; have hcz34_4 : wc.cell? ⟨gb132, 4, none⟩ = some (.int .i64 0) := (blk_cell BK132.out 4).trans rfl; have hcz34_5 : wc.cell? ⟨gb132, 5, none⟩ = some (.int .i64 0) := (blk_cell BK132.out 5).trans rfl; have hcz34_6 : wc.cell? ⟨gb132, 6, none⟩ = some (.int .u32 0) := (blk_cell BK132.out 6).trans rfl; have hcz34_7 : wc.cell? ⟨gb132, 7, none⟩ = some (.string (⟨#[]⟩ : ByteArray)) := (blk_cell BK132.out 7).trans rfl; have hfz34_0 := blk_frozen BK132.out 0; have hfz34_1 := blk_frozen BK132.out 1; have hfz34_2 := blk_frozen BK132.out 2; have hfz34_3 := blk_frozen BK132.out 3; have hfz34_4 := blk_frozen BK132.out 4; have hfz34_5 := blk_frozen BK132.out 5; have hfz34_6 := blk_frozen BK132.out 6; have hfz34_7 := blk_frozen BK132.out 7)))
               refine bodyPost_ret (results_cell_row rfl _ _ gb132 33 #[.int .i64 1, .int .i64 0, .int .i64 0, .int .i64 0, .int .i64 0, .int .i64 0, .int .u32 0, .string ((rdOf ByteArray.empty t134 0).extract 0 ((ji27) : Int).toNat)] (0, 0) _ rfl (by (with_reducible repeat (first | refine blk_drewN ?_ _ | refine blk_drew ?_ | refine blk_alloc ?_ _)); refine blk_put (cs := #[.int .i64 1, .int .i64 0, .int .i64 0, .int .i64 0, .int .i64 0, .int .i64 0, .int .u32 0, .string (⟨#[]⟩ : ByteArray)]) ?_ 7 _ rfl; refine blk_put (cs := #[.int .i64 1, .int .i64 0, .int .i64 0, .int .i64 0, .int .i64 0, .int .i64 0, .int .u32 0, .string (⟨#[]⟩ : ByteArray)]) ?_ 6 _ rfl; refine blk_put (cs := #[.int .i64 1, .int .i64 0, .int .i64 0, .int .i64 0, .int .i64 0, .int .i64 0, .int .u32 0, .string (⟨#[]⟩ : ByteArray)]) ?_ 5 _ rfl; refine blk_put (cs := #[.int .i64 1, .int .i64 0, .int .i64 0, .int .i64 0, .int .i64 0, .int .i64 0, .int .u32 0, .string (⟨#[]⟩ : ByteArray)]) ?_ 4 _ rfl; refine blk_put (cs := #[.int .i64 1, .int .i64 0, .int .i64 0, .int .i64 0, .int .i64 0, .int .i64 0, .int .u32 0, .string (⟨#[]⟩ : ByteArray)]) ?_ 3 _ rfl; refine blk_put (cs := #[.int .i64 1, .int .i64 0, .int .i64 0, .int .i64 0, .int .i64 0, .int .i64 0, .int .u32 0, .string (⟨#[]⟩ : ByteArray)]) ?_ 2 _ rfl; refine blk_put (cs := #[.int .i64 1, .int .i64 0, .int .i64 0, .int .i64 0, .int .i64 0, .int .i64 0, .int .u32 0, .string (⟨#[]⟩ : ByteArray)]) ?_ 1 _ rfl; refine blk_put (cs := #[.int .i64 0, .int .i64 0, .int .i64 0, .int .i64 0, .int .i64 0, .int .i64 0, .int .u32 0, .string (⟨#[]⟩ : ByteArray)]) ?_ 0 _ rfl; (with_reducible repeat (first | refine blk_drewN ?_ _ | refine blk_drew ?_ | refine blk_alloc ?_ _)); exact BK132.out) Tryd.underlying33 rfl (by kernel_rfl)) rfl ?_
               exact ⟨by first | rfl | (simp [errW_none, errW_some] <;> rfl) | (simp only [← hji27]; first | rfl | (simp [errW_none, errW_some] <;> rfl)) | (simp [*, errW_none, errW_some] <;> rfl), by repeat (first | (with_reducible first | exact HB.out | apply below_alloc | apply pw_below_drewN | apply below_drew1 | refine below_set ?_ GE132.out | refine below_set ?_ GE133.out) | exact HB.out)⟩
             · replace c31 := Bool.eq_false_iff.mpr c31
               subst c31
               have H1 : (some (0, 0, 0, 0, 0, 0, 0, (⟨#[]⟩ : ByteArray))) = some (r1, r2, r3, r4, r5, r6, r7, r8) := by rw [if_neg (show ¬ (false = true) by decide)] at H; exact H
               clear H
               have H := H1
               clear H1
               simp only [Option.some.injEq, Prod.mk.injEq] at H
               obtain ⟨rfl, rfl, rfl, rfl, rfl, rfl, rfl, rfl⟩ := H
               obtain ⟨Ao35, co35, eo35⟩ := Kd.R_slice HO_4.out
               subst eo35
               have p140 : 0 ≤ (0 : Int) := (by omega)
               have q140 : 0 < (t134.length : Int) := of_decide_eq_true (by first | (with_reducible assumption) | assumption)
               obtain ⟨ad140, e140, hx140_0⟩ := Kd.at_string (Kd.R_reads' HO_4.out).2.2 0 p140 q140
               cases e140
               have qi140 : (0 < t134.length) = True := eq_true (by omega)
               (try rw [show ((0 : Int)).toNat = 0 from rfl] at hx140_0)
               (try rw [Addr.add_zero'] at hx140_0)
               replace p140 := eq_true p140
               replace q140 := eq_true q140
               have p141 : 0 ≤ (0 : Int) := (by omega)
               have q141 : 0 < (t134.length : Int) := of_decide_eq_true (by first | (with_reducible assumption) | assumption)
               obtain ⟨ad141, e141, hx141_0⟩ := Kd.at_string (Kd.R_reads' HO_4.out).2.2 0 p141 q141
               obtain rfl : ad140 = ad141 := (by injection e141)
               have qi141 : (0 < t134.length) = True := eq_true (by omega)
               (try rw [show ((0 : Int)).toNat = 0 from rfl] at hx141_0)
               (try rw [Addr.add_zero'] at hx141_0)
               replace p141 := eq_true p141
               replace q141 := eq_true q141
               go_wp2_with (first | (go_at_call 38; (with_reducible refine (spec_LabelOk.calls kj8 ((rdOf ByteArray.empty t134 0).extract 0 ((ji27) : Int).toNat) false _ A30.out).mono ?_); rintro e w' ⟨rfl, ⟨nd, rfl⟩⟩; (try first | exact ⟨rfl, _, World.drewN_drewN _ _ _⟩ | exact ⟨rfl, _, Eq.trans (World.drewN_drewN _ _ _) (congrArg (World.drewN _) (Nat.add_assoc _ _ _))⟩); have hnb36 := NB133_132.out; have hnc36 := NB132_133.out; have hcz37_0 : wc.cell? ⟨gb133, 0, none⟩ = some (.int .i64 0) := (blk_cell BK133.out 0).trans rfl; have hcz37_1 : wc.cell? ⟨gb133, 1, none⟩ = some (.int .i64 0) := (blk_cell BK133.out 1).trans rfl; have hcz37_2 : wc.cell? ⟨gb133, 2, none⟩ = some (.int .i64 0) := (blk_cell BK133.out 2).trans rfl; have hcz37_3 : wc.cell? ⟨gb133, 3, none⟩ = some (.int .i64 0) := (blk_cell BK133.out 3).trans rfl; have hcz37_4 : wc.cell? ⟨gb133, 4, none⟩ = some (.int .i64 0) := (blk_cell BK133.out 4).trans rfl; have hcz37_5 : wc.cell? ⟨gb133, 5, none⟩ = some (.int .i64 0) := (blk_cell BK133.out 5).trans rfl; have hcz37_6 : wc.cell? ⟨gb133, 6, none⟩ = some (.int .u32 0) := (blk_cell BK133.out 6).trans rfl; have hcz37_7 : wc.cell? ⟨gb133, 7, none⟩ = some (.string (⟨#[]⟩ : ByteArray)) := (blk_cell BK133.out 7).trans rfl; have hfz37_0 := blk_frozen BK133.out 0; have hfz37_1 := blk_frozen BK133.out 1; have hfz37_2 := blk_frozen BK133.out 2; have hfz37_3 := blk_frozen BK133.out 3; have hfz37_4 := blk_frozen BK133.out 4; have hfz37_5 := blk_frozen BK133.out 5; have hfz37_6 := blk_frozen BK133.out 6; have hfz37_7 := blk_frozen BK133.out 7; have hcz38_0 : wc.cell? ⟨gb132, 0, none⟩ = some (.int .i64 0) := (blk_cell BK132.out 0).trans rfl; have hcz38_1 : wc.cell? ⟨gb132, 1, none⟩ = some (.int .i64 0) := (blk_cell BK132.out 1).trans rfl; have hcz38_2 : wc.cell? ⟨gb132, 2, none⟩ = some (.int .i64 0) := (blk_cell BK132.out 2).trans rfl; have hcz38_3 : wc.cell? ⟨gb132, 3, none⟩ = some (.int .i64 0) := (blk_cell BK132.out 3).trans rfl; have hcz38_4 : wc.cell? ⟨gb132, 4, none⟩ = some (.int .i64 0) := (blk_cell BK132.out 4).trans rfl; have hcz38_5 : wc.cell? ⟨gb132, 5, none⟩ = some (.int .i64 0) := (blk_cell BK132.out 5).trans rfl; have hcz38_6 : wc.cell? ⟨gb132, 6, none⟩ = some (.int .u32 0) := (blk_cell BK132.out 6).trans rfl; have hcz38_7 : wc.cell? ⟨gb132, 7, none⟩ = some (.string (⟨#[]⟩ : ByteArray)) := (blk_cell BK132.out 7).trans rfl; have hfz38_0 := blk_frozen BK132.out 0; have hfz38_1 := blk_frozen BK132.out 1; have hfz38_2 := blk_frozen BK132.out 2; have hfz38_3 := blk_frozen BK132.out 3; have hfz38_4 := blk_frozen BK132.out 4; have hfz38_5 := blk_frozen BK132.out 5; have hfz38_6 := blk_frozen BK132.out 6; have hfz38_7 := blk_frozen BK132.out 7))
               repeat (go_quiet (first | (go_at_call 38; (with_reducible refine (spec_LabelOk.calls kj8 ((rdOf ByteArray.empty t134 0).extract 0 ((ji27) : Int).toNat) false _ A30.out).mono ?_); rintro e w' ⟨rfl, ⟨nd, rfl⟩⟩; (try first | exact ⟨rfl, _, World.drewN_drewN _ _ _⟩ | exact ⟨rfl, _, Eq.trans (World.drewN_drewN _ _ _) (congrArg (World.drewN _) (Nat.add_assoc _ _ _))⟩); have hnb36 := NB133_132.out; have hnc36 := NB132_133.out; have hcz37_0 : wc.cell? ⟨gb133, 0, none⟩ = some (.int .i64 0) := (blk_cell BK133.out 0).trans rfl; have hcz37_1 : wc.cell? ⟨gb133, 1, none⟩ = some (.int .i64 0) := (blk_cell BK133.out 1).trans rfl; have hcz37_2 : wc.cell? ⟨gb133, 2, none⟩ = some (.int .i64 0) := (blk_cell BK133.out 2).trans rfl; have hcz37_3 : wc.cell? ⟨gb133, 3, none⟩ = some (.int .i64 0) := (blk_cell BK133.out 3).trans rfl; have hcz37_4 : wc.cell? ⟨gb133, 4, none⟩ = some (.int .i64 0) := (blk_cell BK133.out 4).trans rfl; have hcz37_5 : wc.cell? ⟨gb133, 5, none⟩ = some (.int .i64 0) := (blk_cell BK133.out 5).trans rfl; have hcz37_6 : wc.cell? ⟨gb133, 6, none⟩ = some (.int .u32 0) := (blk_cell BK133.out 6).trans rfl; have hcz37_7 : wc.cell? ⟨gb133, 7, none⟩ = some (.string (⟨#[]⟩ : ByteArray)) := (blk_cell BK133.out 7).trans rfl; have hfz37_0 := blk_frozen BK133.out 0; have hfz37_1 := blk_frozen BK133.out 1; have hfz37_2 := blk_frozen BK133.out 2; have hfz37_3 := blk_frozen BK133.out 3; have hfz37_4 := blk_frozen BK133.out 4; have hfz37_5 := blk_frozen BK133.out 5; have hfz37_6 := blk_frozen BK133.out 6; have hfz37_7 := blk_frozen BK133.out 7; have hcz38_0 : wc.cell? ⟨gb132, 0, none⟩ = some (.int .i64 0) := (blk_cell BK132.out 0).trans rfl; have hcz38_1 : wc.cell? ⟨gb132, 1, none⟩ = some (.int .i64 0) := (blk_cell BK132.out 1).trans rfl; have hcz38_2 : wc.cell? ⟨gb132, 2, none⟩ = some (.int .i64 0) := (blk_cell BK132.out 2).trans rfl; have hcz38_3 : wc.cell? ⟨gb132, 3, none⟩ = some (.int .i64 0) := (blk_cell BK132.out 3).trans rfl; have hcz38_4 : wc.cell? ⟨gb132, 4, none⟩ = some (.int .i64 0) := (blk_cell BK132.out 4).trans rfl; have hcz38_5 : wc.cell? ⟨gb132, 5, none⟩ = some (.int .i64 0) := (blk_cell BK132.out 5).trans rfl; have hcz38_6 : wc.cell? ⟨gb132, 6, none⟩ = some (.int .u32 0) := (blk_cell BK132.out 6).trans rfl; have hcz38_7 : wc.cell? ⟨gb132, 7, none⟩ = some (.string (⟨#[]⟩ : ByteArray)) := (blk_cell BK132.out 7).trans rfl; have hfz38_0 := blk_frozen BK132.out 0; have hfz38_1 := blk_frozen BK132.out 1; have hfz38_2 := blk_frozen BK132.out 2; have hfz38_3 := blk_frozen BK132.out 3; have hfz38_4 := blk_frozen BK132.out 4; have hfz38_5 := blk_frozen BK132.out 5; have hfz38_6 := blk_frozen BK132.out 6; have hfz38_7 := blk_frozen BK132.out 7)); try go_wp2_with (first | (go_at_call 38; (with_reducible refine (spec_LabelOk.calls kj8 ((rdOf ByteArray.empty t134 0).extract 0 ((ji27) : Int).toNat) false _ A30.out).mono ?_); rintro e w' ⟨rfl, ⟨nd, rfl⟩⟩; (try first | exact ⟨rfl, _, World.drewN_drewN _ _ _⟩ | exact ⟨rfl, _, Eq.trans (World.drewN_drewN _ _ _) (congrArg (World.drewN _) (Nat.add_assoc _ _ _))⟩); have hnb36 := NB133_132.out; have hnc36 := NB132_133.out; have hcz37_0 : wc.cell? ⟨gb133, 0, none⟩ = some (.int .i64 0) := (blk_cell BK133.out 0).trans rfl; have hcz37_1 : wc.cell? ⟨gb133, 1, none⟩ = some (.int .i64 0) := (blk_cell BK133.out 1).trans rfl; have hcz37_2 : wc.cell? ⟨gb133, 2, none⟩ = some (.int .i64 0) := (blk_cell BK133.out 2).trans rfl; have hcz37_3 : wc.cell? ⟨gb133, 3, none⟩ = some (.int .i64 0) := (blk_cell BK133.out 3).trans rfl; have hcz37_4 : wc.cell? ⟨gb133, 4, none⟩ = some (.int .i64 0) := (blk_cell BK133.out 4).trans rfl; have hcz37_5 : wc.cell? ⟨gb133, 5, none⟩ = some (.int .i64 0) := (blk_cell BK133.out 5).trans rfl; have hcz37_6 : wc.cell? ⟨gb133, 6, none⟩ = some (.int .u32 0) := (blk_cell BK133.out 6).trans rfl; have hcz37_7 : wc.cell? ⟨gb133, 7, none⟩ = some (.string (⟨#[]⟩ : ByteArray)) := (blk_cell BK133.out 7).trans rfl; have hfz37_0 := blk_frozen BK133.out 0; have hfz37_1 := blk_frozen BK133.out 1; have hfz37_2 := blk_frozen BK133.out 2; have hfz37_3 := blk_frozen BK133.out 3; have hfz37_4 := blk_frozen BK133.out 4; have hfz37_5 := blk_frozen BK133.out 5; have hfz37_6 := blk_frozen BK133.out 6; have hfz37_7 := blk_frozen BK133.out 7; have hcz38_0 : wc.cell? ⟨gb132, 0, none⟩ = some (.int .i64 0) := (blk_cell BK132.out 0).trans rfl; have hcz38_1 : wc.cell? ⟨gb132, 1, none⟩ = some (.int .i64 0) := (blk_cell BK132.out 1).trans rfl; have hcz38_2 : wc.cell? ⟨gb132, 2, none⟩ = some (.int .i64 0) := (blk_cell BK132.out 2).trans rfl; have hcz38_3 : wc.cell? ⟨gb132, 3, none⟩ = some (.int .i64 0) := (blk_cell BK132.out 3).trans rfl; have hcz38_4 : wc.cell? ⟨gb132, 4, none⟩ = some (.int .i64 0) := (blk_cell BK132.out 4).trans rfl; have hcz38_5 : wc.cell? ⟨gb132, 5, none⟩ = some (.int .i64 0) := (blk_cell BK132.out 5).trans rfl; have hcz38_6 : wc.cell? ⟨gb132, 6, none⟩ = some (.int .u32 0) := (blk_cell BK132.out 6).trans rfl; have hcz38_7 : wc.cell? ⟨gb132, 7, none⟩ = some (.string (⟨#[]⟩ : ByteArray)) := (blk_cell BK132.out 7).trans rfl; have hfz38_0 := blk_frozen BK132.out 0; have hfz38_1 := blk_frozen BK132.out 1; have hfz38_2 := blk_frozen BK132.out 2; have hfz38_3 := blk_frozen BK132.out 3; have hfz38_4 := blk_frozen BK132.out 4; have hfz38_5 := blk_frozen BK132.out 5; have hfz38_6 := blk_frozen BK132.out 6; have hfz38_7 := blk_frozen BK132.out 7)))
               refine bodyPost_ret (results_cell_row rfl _ _ gb132 33 #[.int .i64 0, .int .i64 0, .int .i64 0, .int .i64 0, .int .i64 0, .int .i64 0, .int .u32 0, .string (⟨#[]⟩ : ByteArray)] (0, 0) _ rfl (by (with_reducible repeat (first | refine blk_drewN ?_ _ | refine blk_drew ?_ | refine blk_alloc ?_ _)); refine blk_put (cs := #[.int .i64 0, .int .i64 0, .int .i64 0, .int .i64 0, .int .i64 0, .int .i64 0, .int .u32 0, .string (⟨#[]⟩ : ByteArray)]) ?_ 7 _ rfl; refine blk_put (cs := #[.int .i64 0, .int .i64 0, .int .i64 0, .int .i64 0, .int .i64 0, .int .i64 0, .int .u32 0, .string (⟨#[]⟩ : ByteArray)]) ?_ 6 _ rfl; refine blk_put (cs := #[.int .i64 0, .int .i64 0, .int .i64 0, .int .i64 0, .int .i64 0, .int .i64 0, .int .u32 0, .string (⟨#[]⟩ : ByteArray)]) ?_ 5 _ rfl; refine blk_put (cs := #[.int .i64 0, .int .i64 0, .int .i64 0, .int .i64 0, .int .i64 0, .int .i64 0, .int .u32 0, .string (⟨#[]⟩ : ByteArray)]) ?_ 4 _ rfl; refine blk_put (cs := #[.int .i64 0, .int .i64 0, .int .i64 0, .int .i64 0, .int .i64 0, .int .i64 0, .int .u32 0, .string (⟨#[]⟩ : ByteArray)]) ?_ 3 _ rfl; refine blk_put (cs := #[.int .i64 0, .int .i64 0, .int .i64 0, .int .i64 0, .int .i64 0, .int .i64 0, .int .u32 0, .string (⟨#[]⟩ : ByteArray)]) ?_ 2 _ rfl; refine blk_put (cs := #[.int .i64 0, .int .i64 0, .int .i64 0, .int .i64 0, .int .i64 0, .int .i64 0, .int .u32 0, .string (⟨#[]⟩ : ByteArray)]) ?_ 1 _ rfl; refine blk_put (cs := #[.int .i64 0, .int .i64 0, .int .i64 0, .int .i64 0, .int .i64 0, .int .i64 0, .int .u32 0, .string (⟨#[]⟩ : ByteArray)]) ?_ 0 _ rfl; (with_reducible repeat (first | refine blk_drewN ?_ _ | refine blk_drew ?_ | refine blk_alloc ?_ _)); exact BK132.out) Tryd.underlying33 rfl (by kernel_rfl)) rfl ?_
               exact ⟨by first | rfl | (simp [errW_none, errW_some] <;> rfl) | (simp only [← hji27]; first | rfl | (simp [errW_none, errW_some] <;> rfl)) | (simp [*, errW_none, errW_some] <;> rfl), by repeat (first | (with_reducible first | exact HB.out | apply below_alloc | apply pw_below_drewN | apply below_drew1 | refine below_set ?_ GE132.out | refine below_set ?_ GE133.out) | exact HB.out)⟩
           · rw [if_neg c29] at H
             exact absurd H (by simp)
         · rw [if_neg c28] at H
           exact absurd H (by simp)
       · rw [if_neg c26] at H
         exact absurd H (by simp)
     · replace c25 := Bool.eq_false_iff.mpr c25
       subst c25
       have H1 : (if 0 < (t134.length : Int) then (if (rdOf ByteArray.empty t134 0).toList = ([46, 119, 111, 114, 100] : List UInt8) then (if (t134.length : Int) = 2 then (if 1 < (t134.length : Int) then ((spec_DecNum.f kj8 (rdOf ByteArray.empty t134 1) 4294967295).bind fun bt145 => (if bt145.2 = true then (if bt145.1 < 0 then (some (0, 0, 0, 0, 0, 0, 0, (⟨#[]⟩ : ByteArray))) else (some (2, 0, 0, 0, 0, 0, (bt145.1) % 4294967296, (⟨#[]⟩ : ByteArray)))) else (some (0, 0, 0, 0, 0, 0, 0, (⟨#[]⟩ : ByteArray))))) else (none)) else (some (0, 0, 0, 0, 0, 0, 0, (⟨#[]⟩ : ByteArray)))) else ((spec_OpOf.f kj8 (rdOf ByteArray.empty t134 0)).bind fun t148 => (if t148 < 0 then (some (0, 0, 0, 0, 0, 0, 0, (⟨#[]⟩ : ByteArray))) else ((spec_FormOf.f t148).bind fun t149 => (spec_ReadLine.l0 kj8 t134 t148 t149 1 1 0 0 0 0 0 0 0 (⟨#[]⟩ : ByteArray) 3 t148 0 0 0 0 0 (⟨#[]⟩ : ByteArray)))))) else (none)) = some (r1, r2, r3, r4, r5, r6, r7, r8) := by rw [if_neg (show ¬ (false = true) by decide)] at H; exact H
       clear H
       have H := H1
       clear H1
       by_cases c39 : 0 < (t134.length : Int)
       · rw [if_pos c39] at H
         have c39b0 : decide (0 < (t134.length : Int)) = true := decide_eq_true c39
         have c39b1 : decide (0 < t134.length) = true := decide_eq_true (by omega)
         clear c39
         by_cases c40 : (rdOf ByteArray.empty t134 0).toList = ([46, 119, 111, 114, 100] : List UInt8)
         · rw [if_pos c40] at H
           have c40b0 : ((rdOf ByteArray.empty t134 0).toList == ([46, 119, 111, 114, 100] : List UInt8)) = true := beq_iff_eq.mpr c40
           have c40b1 : ((rdOf ByteArray.empty t134 0).toList != ([46, 119, 111, 114, 100] : List UInt8)) = false := bne_eq_false_iff_eq.mpr c40
           clear c40
           by_cases c41 : (t134.length : Int) = 2
           · rw [if_pos c41] at H
             have c41b0 : ((t134.length : Int) == 2) = true := beq_iff_eq.mpr c41
             have c41b1 : ((t134.length : Int) != 2) = false := bne_eq_false_iff_eq.mpr c41
             clear c41
             by_cases c42 : 1 < (t134.length : Int)
             · rw [if_pos c42] at H
               have c42b0 : decide (1 < (t134.length : Int)) = true := decide_eq_true c42
               have c42b1 : decide (1 < t134.length) = true := decide_eq_true (by omega)
               clear c42
               replace H := Option.bind_eq_some_iff.mp H
               obtain ⟨⟨t145, t146⟩, A430, H⟩ := H
               replace H : (if t146 = true then (if t145 < 0 then (some (0, 0, 0, 0, 0, 0, 0, (⟨#[]⟩ : ByteArray))) else (some (2, 0, 0, 0, 0, 0, (t145) % 4294967296, (⟨#[]⟩ : ByteArray)))) else (some (0, 0, 0, 0, 0, 0, 0, (⟨#[]⟩ : ByteArray)))) = some (r1, r2, r3, r4, r5, r6, r7, r8) := H
               have A43 := Aside0.mk A430
               clear A430
               by_cases c44 : t146 = true
               · subst c44
                 have H1 : (if t145 < 0 then (some (0, 0, 0, 0, 0, 0, 0, (⟨#[]⟩ : ByteArray))) else (some (2, 0, 0, 0, 0, 0, (t145) % 4294967296, (⟨#[]⟩ : ByteArray)))) = some (r1, r2, r3, r4, r5, r6, r7, r8) := by rw [if_pos rfl] at H; exact H
                 clear H
                 have H := H1
                 clear H1
                 by_cases c45 : t145 < 0
                 · rw [if_pos c45] at H
                   have c45b0 : decide (t145 < 0) = true := decide_eq_true c45
                   clear c45
                   simp only [Option.some.injEq, Prod.mk.injEq] at H
                   obtain ⟨rfl, rfl, rfl, rfl, rfl, rfl, rfl, rfl⟩ := H
                   obtain ⟨Ao46, co46, eo46⟩ := Kd.R_slice HO_4.out
                   subst eo46
                   have p143 : 0 ≤ (0 : Int) := (by omega)
                   have q143 : 0 < (t134.length : Int) := of_decide_eq_true (by first | (with_reducible assumption) | assumption)
                   obtain ⟨ad143, e143, hx143_0⟩ := Kd.at_string (Kd.R_reads' HO_4.out).2.2 0 p143 q143
                   cases e143
                   have qi143 : (0 < t134.length) = True := eq_true (by omega)
                   (try rw [show ((0 : Int)).toNat = 0 from rfl] at hx143_0)
                   (try rw [Addr.add_zero'] at hx143_0)
                   replace p143 := eq_true p143
                   replace q143 := eq_true q143
                   have p144 : 0 ≤ (1 : Int) := (by omega)
                   have q144 : 1 < (t134.length : Int) := of_decide_eq_true (by first | (with_reducible assumption) | assumption)
                   obtain ⟨ad144, e144, hx144_0⟩ := Kd.at_string (Kd.R_reads' HO_4.out).2.2 1 p144 q144
                   obtain rfl : ad143 = ad144 := (by injection e144)
                   (try simp only [show (1 : Int).toNat = 1 from rfl, Nat.reduceMul, Nat.reduceEqDiff, Go.Addr.add, ↓reduceIte] at hx144_0)
                   have qi144 : (1 < t134.length) = True := eq_true (by omega)
                   (try rw [show ((1 : Int)).toNat = 1 from rfl] at hx144_0)
                   replace p144 := eq_true p144
                   replace q144 := eq_true q144
                   go_wp2_with (first | (go_at_call 39; (with_reducible refine (spec_DecNum.calls kj8 (rdOf ByteArray.empty t134 1) 4294967295 t145 true _ A43.out).mono ?_); rintro e w' ⟨rfl, ⟨nd, rfl⟩⟩; (try first | exact ⟨rfl, _, World.drewN_drewN _ _ _⟩ | exact ⟨rfl, _, Eq.trans (World.drewN_drewN _ _ _) (congrArg (World.drewN _) (Nat.add_assoc _ _ _))⟩); have hnb47 := NB133_132.out; have hnc47 := NB132_133.out; have hcz48_0 : wc.cell? ⟨gb133, 0, none⟩ = some (.int .i64 0) := (blk_cell BK133.out 0).trans rfl; have hcz48_1 : wc.cell? ⟨gb133, 1, none⟩ = some (.int .i64 0) := (blk_cell BK133.out 1).trans rfl; have hcz48_2 : wc.cell? ⟨gb133, 2, none⟩ = some (.int .i64 0) := (blk_cell BK133.out 2).trans rfl; have hcz48_3 : wc.cell? ⟨gb133, 3, none⟩ = some (.int .i64 0) := (blk_cell BK133.out 3).trans rfl; have hcz48_4 : wc.cell? ⟨gb133, 4, none⟩ = some (.int .i64 0) := (blk_cell BK133.out 4).trans rfl; have hcz48_5 : wc.cell? ⟨gb133, 5, none⟩ = some (.int .i64 0) := (blk_cell BK133.out 5).trans rfl; have hcz48_6 : wc.cell? ⟨gb133, 6, none⟩ = some (.int .u32 0) := (blk_cell BK133.out 6).trans rfl; have hcz48_7 : wc.cell? ⟨gb133, 7, none⟩ = some (.string (⟨#[]⟩ : ByteArray)) := (blk_cell BK133.out 7).trans rfl; have hfz48_0 := blk_frozen BK133.out 0; have hfz48_1 := blk_frozen BK133.out 1; have hfz48_2 := blk_frozen BK133.out 2; have hfz48_3 := blk_frozen BK133.out 3; have hfz48_4 := blk_frozen BK133.out 4; have hfz48_5 := blk_frozen BK133.out 5; have hfz48_6 := blk_frozen BK133.out 6; have hfz48_7 := blk_frozen BK133.out 7; have hcz49_0 : wc.cell? ⟨gb132, 0, none⟩ = some (.int .i64 0) := (blk_cell BK132.out 0).trans rfl; have hcz49_1 : wc.cell? ⟨gb132, 1, none⟩ = some (.int .i64 0) := (blk_cell BK132.out 1).trans rfl; have hcz49_2 : wc.cell? ⟨gb132, 2, none⟩ = some (.int .i64 0) := (blk_cell BK132.out 2).trans rfl; have hcz49_3 : wc.cell? ⟨gb132, 3, none⟩ = some (.int .i64 0) := (blk_cell BK132.out 3).trans rfl; have hcz49_4 : wc.cell? ⟨gb132, 4, none⟩ = some (.int .i64 0) := (blk_cell BK132.out 4).trans rfl; have hcz49_5 : wc.cell? ⟨gb132, 5, none⟩ = some (.int .i64 0) := (blk_cell BK132.out 5).trans rfl; have hcz49_6 : wc.cell? ⟨gb132, 6, none⟩ = some (.int .u32 0) := (blk_cell BK132.out 6).trans rfl; have hcz49_7 : wc.cell? ⟨gb132, 7, none⟩ = some (.string (⟨#[]⟩ : ByteArray)) := (blk_cell BK132.out 7).trans rfl; have hfz49_0 := blk_frozen BK132.out 0; have hfz49_1 := blk_frozen BK132.out 1; have hfz49_2 := blk_frozen BK132.out 2; have hfz49_3 := blk_frozen BK132.out 3; have hfz49_4 := blk_frozen BK132.out 4; have hfz49_5 := blk_frozen BK132.out 5; have hfz49_6 := blk_frozen BK132.out 6; have hfz49_7 := blk_frozen BK132.out 7))
                   refine bodyPost_ret (results_cell_row rfl _ _ gb132 33 #[.int .i64 0, .int .i64 0, .int .i64 0, .int .i64 0, .int .i64 0, .int .i64 0, .int .u32 0, .string (⟨#[]⟩ : ByteArray)] (0, 0) _ rfl (by (with_reducible repeat (first | refine blk_drewN ?_ _ | refine blk_drew ?_ | refine blk_alloc ?_ _)); refine blk_put (cs := #[.int .i64 0, .int .i64 0, .int .i64 0, .int .i64 0, .int .i64 0, .int .i64 0, .int .u32 0, .string (⟨#[]⟩ : ByteArray)]) ?_ 7 _ rfl; refine blk_put (cs := #[.int .i64 0, .int .i64 0, .int .i64 0, .int .i64 0, .int .i64 0, .int .i64 0, .int .u32 0, .string (⟨#[]⟩ : ByteArray)]) ?_ 6 _ rfl; refine blk_put (cs := #[.int .i64 0, .int .i64 0, .int .i64 0, .int .i64 0, .int .i64 0, .int .i64 0, .int .u32 0, .string (⟨#[]⟩ : ByteArray)]) ?_ 5 _ rfl; refine blk_put (cs := #[.int .i64 0, .int .i64 0, .int .i64 0, .int .i64 0, .int .i64 0, .int .i64 0, .int .u32 0, .string (⟨#[]⟩ : ByteArray)]) ?_ 4 _ rfl; refine blk_put (cs := #[.int .i64 0, .int .i64 0, .int .i64 0, .int .i64 0, .int .i64 0, .int .i64 0, .int .u32 0, .string (⟨#[]⟩ : ByteArray)]) ?_ 3 _ rfl; refine blk_put (cs := #[.int .i64 0, .int .i64 0, .int .i64 0, .int .i64 0, .int .i64 0, .int .i64 0, .int .u32 0, .string (⟨#[]⟩ : ByteArray)]) ?_ 2 _ rfl; refine blk_put (cs := #[.int .i64 0, .int .i64 0, .int .i64 0, .int .i64 0, .int .i64 0, .int .i64 0, .int .u32 0, .string (⟨#[]⟩ : ByteArray)]) ?_ 1 _ rfl; refine blk_put (cs := #[.int .i64 0, .int .i64 0, .int .i64 0, .int .i64 0, .int .i64 0, .int .i64 0, .int .u32 0, .string (⟨#[]⟩ : ByteArray)]) ?_ 0 _ rfl; (with_reducible repeat (first | refine blk_drewN ?_ _ | refine blk_drew ?_ | refine blk_alloc ?_ _)); exact BK132.out) Tryd.underlying33 rfl (by kernel_rfl)) rfl ?_
                   exact ⟨by first | rfl | (simp [errW_none, errW_some] <;> rfl) | (simp [*, errW_none, errW_some] <;> rfl), by repeat (first | (with_reducible first | exact HB.out | apply below_alloc | apply pw_below_drewN | apply below_drew1 | refine below_set ?_ GE132.out | refine below_set ?_ GE133.out) | exact HB.out)⟩
                 · rw [if_neg c45] at H
                   have c45b0 : decide (t145 < 0) = false := decide_eq_false c45
                   clear c45
                   simp only [Option.some.injEq, Prod.mk.injEq] at H
                   obtain ⟨rfl, rfl, rfl, rfl, rfl, rfl, rfl, rfl⟩ := H
                   obtain ⟨Ao50, co50, eo50⟩ := Kd.R_slice HO_4.out
                   subst eo50
                   have p143 : 0 ≤ (0 : Int) := (by omega)
                   have q143 : 0 < (t134.length : Int) := of_decide_eq_true (by first | (with_reducible assumption) | assumption)
                   obtain ⟨ad143, e143, hx143_0⟩ := Kd.at_string (Kd.R_reads' HO_4.out).2.2 0 p143 q143
                   cases e143
                   have qi143 : (0 < t134.length) = True := eq_true (by omega)
                   (try rw [show ((0 : Int)).toNat = 0 from rfl] at hx143_0)
                   (try rw [Addr.add_zero'] at hx143_0)
                   replace p143 := eq_true p143
                   replace q143 := eq_true q143
                   have p144 : 0 ≤ (1 : Int) := (by omega)
                   have q144 : 1 < (t134.length : Int) := of_decide_eq_true (by first | (with_reducible assumption) | assumption)
                   obtain ⟨ad144, e144, hx144_0⟩ := Kd.at_string (Kd.R_reads' HO_4.out).2.2 1 p144 q144
                   obtain rfl : ad143 = ad144 := (by injection e144)
                   (try simp only [show (1 : Int).toNat = 1 from rfl, Nat.reduceMul, Nat.reduceEqDiff, Go.Addr.add, ↓reduceIte] at hx144_0)
                   have qi144 : (1 < t134.length) = True := eq_true (by omega)
                   (try rw [show ((1 : Int)).toNat = 1 from rfl] at hx144_0)
                   replace p144 := eq_true p144
                   replace q144 := eq_true q144
                   go_wp2_with (first | (go_at_call 39; (with_reducible refine (spec_DecNum.calls kj8 (rdOf ByteArray.empty t134 1) 4294967295 t145 true _ A43.out).mono ?_); rintro e w' ⟨rfl, ⟨nd, rfl⟩⟩; (try first | exact ⟨rfl, _, World.drewN_drewN _ _ _⟩ | exact ⟨rfl, _, Eq.trans (World.drewN_drewN _ _ _) (congrArg (World.drewN _) (Nat.add_assoc _ _ _))⟩); have hnb51 := NB132_133.out; have hnc51 := NB133_132.out; have hcz52_0 : wc.cell? ⟨gb132, 0, none⟩ = some (.int .i64 0) := (blk_cell BK132.out 0).trans rfl; have hcz52_1 : wc.cell? ⟨gb132, 1, none⟩ = some (.int .i64 0) := (blk_cell BK132.out 1).trans rfl; have hcz52_2 : wc.cell? ⟨gb132, 2, none⟩ = some (.int .i64 0) := (blk_cell BK132.out 2).trans rfl; have hcz52_3 : wc.cell? ⟨gb132, 3, none⟩ = some (.int .i64 0) := (blk_cell BK132.out 3).trans rfl; have hcz52_4 : wc.cell? ⟨gb132, 4, none⟩ = some (.int .i64 0) := (blk_cell BK132.out 4).trans rfl; have hcz52_5 : wc.cell? ⟨gb132, 5, none⟩ = some (.int .i64 0) := (blk_cell BK132.out 5).trans rfl; have hcz52_6 : wc.cell? ⟨gb132, 6, none⟩ = some (.int .u32 0) := (blk_cell BK132.out 6).trans rfl; have hcz52_7 : wc.cell? ⟨gb132, 7, none⟩ = some (.string (⟨#[]⟩ : ByteArray)) := (blk_cell BK132.out 7).trans rfl; have hfz52_0 := blk_frozen BK132.out 0; have hfz52_1 := blk_frozen BK132.out 1; have hfz52_2 := blk_frozen BK132.out 2; have hfz52_3 := blk_frozen BK132.out 3; have hfz52_4 := blk_frozen BK132.out 4; have hfz52_5 := blk_frozen BK132.out 5; have hfz52_6 := blk_frozen BK132.out 6; have hfz52_7 := blk_frozen BK132.out 7))
                   refine bodyPost_ret (results_cell_row rfl _ _ gb132 33 #[.int .i64 2, .int .i64 0, .int .i64 0, .int .i64 0, .int .i64 0, .int .i64 0, .int .u32 ((t145) % 4294967296), .string (⟨#[]⟩ : ByteArray)] (0, 0) _ rfl (by (with_reducible repeat (first | refine blk_drewN ?_ _ | refine blk_drew ?_ | refine blk_alloc ?_ _)); refine blk_put (cs := #[.int .i64 2, .int .i64 0, .int .i64 0, .int .i64 0, .int .i64 0, .int .i64 0, .int .u32 ((t145) % 4294967296), .string (⟨#[]⟩ : ByteArray)]) ?_ 7 _ rfl; (with_reducible repeat (first | refine blk_drewN ?_ _ | refine blk_drew ?_ | refine blk_alloc ?_ _)); refine blk_put (cs := #[.int .i64 2, .int .i64 0, .int .i64 0, .int .i64 0, .int .i64 0, .int .i64 0, .int .u32 0, .string (⟨#[]⟩ : ByteArray)]) ?_ 6 _ rfl; refine blk_put (cs := #[.int .i64 2, .int .i64 0, .int .i64 0, .int .i64 0, .int .i64 0, .int .i64 0, .int .u32 0, .string (⟨#[]⟩ : ByteArray)]) ?_ 5 _ rfl; refine blk_put (cs := #[.int .i64 2, .int .i64 0, .int .i64 0, .int .i64 0, .int .i64 0, .int .i64 0, .int .u32 0, .string (⟨#[]⟩ : ByteArray)]) ?_ 4 _ rfl; refine blk_put (cs := #[.int .i64 2, .int .i64 0, .int .i64 0, .int .i64 0, .int .i64 0, .int .i64 0, .int .u32 0, .string (⟨#[]⟩ : ByteArray)]) ?_ 3 _ rfl; refine blk_put (cs := #[.int .i64 2, .int .i64 0, .int .i64 0, .int .i64 0, .int .i64 0, .int .i64 0, .int .u32 0, .string (⟨#[]⟩ : ByteArray)]) ?_ 2 _ rfl; refine blk_put (cs := #[.int .i64 2, .int .i64 0, .int .i64 0, .int .i64 0, .int .i64 0, .int .i64 0, .int .u32 0, .string (⟨#[]⟩ : ByteArray)]) ?_ 1 _ rfl; refine blk_put (cs := #[.int .i64 0, .int .i64 0, .int .i64 0, .int .i64 0, .int .i64 0, .int .i64 0, .int .u32 0, .string (⟨#[]⟩ : ByteArray)]) ?_ 0 _ rfl; (with_reducible repeat (first | refine blk_drewN ?_ _ | refine blk_drew ?_ | refine blk_alloc ?_ _)); exact BK132.out) Tryd.underlying33 rfl (by kernel_rfl)) rfl ?_
                   exact ⟨by first | rfl | (simp [errW_none, errW_some] <;> rfl) | (simp [*, errW_none, errW_some] <;> rfl), by repeat (first | (with_reducible first | exact HB.out | apply below_alloc | apply pw_below_drewN | apply below_drew1 | refine below_set ?_ GE132.out | refine below_set ?_ GE133.out) | exact HB.out)⟩
               · replace c44 := Bool.eq_false_iff.mpr c44
                 subst c44
                 have H1 : (some (0, 0, 0, 0, 0, 0, 0, (⟨#[]⟩ : ByteArray))) = some (r1, r2, r3, r4, r5, r6, r7, r8) := by rw [if_neg (show ¬ (false = true) by decide)] at H; exact H
                 clear H
                 have H := H1
                 clear H1
                 simp only [Option.some.injEq, Prod.mk.injEq] at H
                 obtain ⟨rfl, rfl, rfl, rfl, rfl, rfl, rfl, rfl⟩ := H
                 obtain ⟨Ao53, co53, eo53⟩ := Kd.R_slice HO_4.out
                 subst eo53
                 have p143 : 0 ≤ (0 : Int) := (by omega)
                 have q143 : 0 < (t134.length : Int) := of_decide_eq_true (by first | (with_reducible assumption) | assumption)
                 obtain ⟨ad143, e143, hx143_0⟩ := Kd.at_string (Kd.R_reads' HO_4.out).2.2 0 p143 q143
                 cases e143
                 have qi143 : (0 < t134.length) = True := eq_true (by omega)
                 (try rw [show ((0 : Int)).toNat = 0 from rfl] at hx143_0)
                 (try rw [Addr.add_zero'] at hx143_0)
                 replace p143 := eq_true p143
                 replace q143 := eq_true q143
                 have p144 : 0 ≤ (1 : Int) := (by omega)
                 have q144 : 1 < (t134.length : Int) := of_decide_eq_true (by first | (with_reducible assumption) | assumption)
                 obtain ⟨ad144, e144, hx144_0⟩ := Kd.at_string (Kd.R_reads' HO_4.out).2.2 1 p144 q144
                 obtain rfl : ad143 = ad144 := (by injection e144)
                 (try simp only [show (1 : Int).toNat = 1 from rfl, Nat.reduceMul, Nat.reduceEqDiff, Go.Addr.add, ↓reduceIte] at hx144_0)
                 have qi144 : (1 < t134.length) = True := eq_true (by omega)
                 (try rw [show ((1 : Int)).toNat = 1 from rfl] at hx144_0)
                 replace p144 := eq_true p144
                 replace q144 := eq_true q144
                 go_wp2_with (first | (go_at_call 39; (with_reducible refine (spec_DecNum.calls kj8 (rdOf ByteArray.empty t134 1) 4294967295 t145 false _ A43.out).mono ?_); rintro e w' ⟨rfl, ⟨nd, rfl⟩⟩; (try first | exact ⟨rfl, _, World.drewN_drewN _ _ _⟩ | exact ⟨rfl, _, Eq.trans (World.drewN_drewN _ _ _) (congrArg (World.drewN _) (Nat.add_assoc _ _ _))⟩); have hnb54 := NB133_132.out; have hnc54 := NB132_133.out; have hcz55_0 : wc.cell? ⟨gb133, 0, none⟩ = some (.int .i64 0) := (blk_cell BK133.out 0).trans rfl; have hcz55_1 : wc.cell? ⟨gb133, 1, none⟩ = some (.int .i64 0) := (blk_cell BK133.out 1).trans rfl; have hcz55_2 : wc.cell? ⟨gb133, 2, none⟩ = some (.int .i64 0) := (blk_cell BK133.out 2).trans rfl; have hcz55_3 : wc.cell? ⟨gb133, 3, none⟩ = some (.int .i64 0) := (blk_cell BK133.out 3).trans rfl; have hcz55_4 : wc.cell? ⟨gb133, 4, none⟩ = some (.int .i64 0) := (blk_cell BK133.out 4).trans rfl; have hcz55_5 : wc.cell? ⟨gb133, 5, none⟩ = some (.int .i64 0) := (blk_cell BK133.out 5).trans rfl; have hcz55_6 : wc.cell? ⟨gb133, 6, none⟩ = some (.int .u32 0) := (blk_cell BK133.out 6).trans rfl; have hcz55_7 : wc.cell? ⟨gb133, 7, none⟩ = some (.string (⟨#[]⟩ : ByteArray)) := (blk_cell BK133.out 7).trans rfl; have hfz55_0 := blk_frozen BK133.out 0; have hfz55_1 := blk_frozen BK133.out 1; have hfz55_2 := blk_frozen BK133.out 2; have hfz55_3 := blk_frozen BK133.out 3; have hfz55_4 := blk_frozen BK133.out 4; have hfz55_5 := blk_frozen BK133.out 5; have hfz55_6 := blk_frozen BK133.out 6; have hfz55_7 := blk_frozen BK133.out 7; have hcz56_0 : wc.cell? ⟨gb132, 0, none⟩ = some (.int .i64 0) := (blk_cell BK132.out 0).trans rfl; have hcz56_1 : wc.cell? ⟨gb132, 1, none⟩ = some (.int .i64 0) := (blk_cell BK132.out 1).trans rfl; have hcz56_2 : wc.cell? ⟨gb132, 2, none⟩ = some (.int .i64 0) := (blk_cell BK132.out 2).trans rfl; have hcz56_3 : wc.cell? ⟨gb132, 3, none⟩ = some (.int .i64 0) := (blk_cell BK132.out 3).trans rfl; have hcz56_4 : wc.cell? ⟨gb132, 4, none⟩ = some (.int .i64 0) := (blk_cell BK132.out 4).trans rfl; have hcz56_5 : wc.cell? ⟨gb132, 5, none⟩ = some (.int .i64 0) := (blk_cell BK132.out 5).trans rfl; have hcz56_6 : wc.cell? ⟨gb132, 6, none⟩ = some (.int .u32 0) := (blk_cell BK132.out 6).trans rfl; have hcz56_7 : wc.cell? ⟨gb132, 7, none⟩ = some (.string (⟨#[]⟩ : ByteArray)) := (blk_cell BK132.out 7).trans rfl; have hfz56_0 := blk_frozen BK132.out 0; have hfz56_1 := blk_frozen BK132.out 1; have hfz56_2 := blk_frozen BK132.out 2; have hfz56_3 := blk_frozen BK132.out 3; have hfz56_4 := blk_frozen BK132.out 4; have hfz56_5 := blk_frozen BK132.out 5; have hfz56_6 := blk_frozen BK132.out 6; have hfz56_7 := blk_frozen BK132.out 7))
                 refine bodyPost_ret (results_cell_row rfl _ _ gb132 33 #[.int .i64 0, .int .i64 0, .int .i64 0, .int .i64 0, .int .i64 0, .int .i64 0, .int .u32 0, .string (⟨#[]⟩ : ByteArray)] (0, 0) _ rfl (by (with_reducible repeat (first | refine blk_drewN ?_ _ | refine blk_drew ?_ | refine blk_alloc ?_ _)); refine blk_put (cs := #[.int .i64 0, .int .i64 0, .int .i64 0, .int .i64 0, .int .i64 0, .int .i64 0, .int .u32 0, .string (⟨#[]⟩ : ByteArray)]) ?_ 7 _ rfl; refine blk_put (cs := #[.int .i64 0, .int .i64 0, .int .i64 0, .int .i64 0, .int .i64 0, .int .i64 0, .int .u32 0, .string (⟨#[]⟩ : ByteArray)]) ?_ 6 _ rfl; refine blk_put (cs := #[.int .i64 0, .int .i64 0, .int .i64 0, .int .i64 0, .int .i64 0, .int .i64 0, .int .u32 0, .string (⟨#[]⟩ : ByteArray)]) ?_ 5 _ rfl; refine blk_put (cs := #[.int .i64 0, .int .i64 0, .int .i64 0, .int .i64 0, .int .i64 0, .int .i64 0, .int .u32 0, .string (⟨#[]⟩ : ByteArray)]) ?_ 4 _ rfl; refine blk_put (cs := #[.int .i64 0, .int .i64 0, .int .i64 0, .int .i64 0, .int .i64 0, .int .i64 0, .int .u32 0, .string (⟨#[]⟩ : ByteArray)]) ?_ 3 _ rfl; refine blk_put (cs := #[.int .i64 0, .int .i64 0, .int .i64 0, .int .i64 0, .int .i64 0, .int .i64 0, .int .u32 0, .string (⟨#[]⟩ : ByteArray)]) ?_ 2 _ rfl; refine blk_put (cs := #[.int .i64 0, .int .i64 0, .int .i64 0, .int .i64 0, .int .i64 0, .int .i64 0, .int .u32 0, .string (⟨#[]⟩ : ByteArray)]) ?_ 1 _ rfl; refine blk_put (cs := #[.int .i64 0, .int .i64 0, .int .i64 0, .int .i64 0, .int .i64 0, .int .i64 0, .int .u32 0, .string (⟨#[]⟩ : ByteArray)]) ?_ 0 _ rfl; (with_reducible repeat (first | refine blk_drewN ?_ _ | refine blk_drew ?_ | refine blk_alloc ?_ _)); exact BK132.out) Tryd.underlying33 rfl (by kernel_rfl)) rfl ?_
                 exact ⟨by first | rfl | (simp [errW_none, errW_some] <;> rfl) | (simp [*, errW_none, errW_some] <;> rfl), by repeat (first | (with_reducible first | exact HB.out | apply below_alloc | apply pw_below_drewN | apply below_drew1 | refine below_set ?_ GE132.out | refine below_set ?_ GE133.out) | exact HB.out)⟩
             · rw [if_neg c42] at H
               exact absurd H (by simp)
           · rw [if_neg c41] at H
             have c41b0 : ((t134.length : Int) == 2) = false := beq_eq_false_iff_ne.mpr c41
             have c41b1 : ((t134.length : Int) != 2) = true := bne_iff_ne.mpr c41
             simp only [Option.some.injEq, Prod.mk.injEq] at H
             obtain ⟨rfl, rfl, rfl, rfl, rfl, rfl, rfl, rfl⟩ := H
             obtain ⟨Ao57, co57, eo57⟩ := Kd.R_slice HO_4.out
             subst eo57
             have p143 : 0 ≤ (0 : Int) := (by omega)
             have q143 : 0 < (t134.length : Int) := of_decide_eq_true (by first | (with_reducible assumption) | assumption)
             obtain ⟨ad143, e143, hx143_0⟩ := Kd.at_string (Kd.R_reads' HO_4.out).2.2 0 p143 q143
             cases e143
             have qi143 : (0 < t134.length) = True := eq_true (by omega)
             (try rw [show ((0 : Int)).toNat = 0 from rfl] at hx143_0)
             (try rw [Addr.add_zero'] at hx143_0)
             replace p143 := eq_true p143
             replace q143 := eq_true q143
             have hnb58 := NB133_132.out
             have hnc58 := NB132_133.out
             have hcz59_0 : wc.cell? ⟨gb133, 0, none⟩ = some (.int .i64 0) := (blk_cell BK133.out 0).trans rfl
             have hcz59_1 : wc.cell? ⟨gb133, 1, none⟩ = some (.int .i64 0) := (blk_cell BK133.out 1).trans rfl
             have hcz59_2 : wc.cell? ⟨gb133, 2, none⟩ = some (.int .i64 0) := (blk_cell BK133.out 2).trans rfl
             have hcz59_3 : wc.cell? ⟨gb133, 3, none⟩ = some (.int .i64 0) := (blk_cell BK133.out 3).trans rfl
             have hcz59_4 : wc.cell? ⟨gb133, 4, none⟩ = some (.int .i64 0) := (blk_cell BK133.out 4).trans rfl
             have hcz59_5 : wc.cell? ⟨gb133, 5, none⟩ = some (.int .i64 0) := (blk_cell BK133.out 5).trans rfl
             have hcz59_6 : wc.cell? ⟨gb133, 6, none⟩ = some (.int .u32 0) := (blk_cell BK133.out 6).trans rfl
             have hcz59_7 : wc.cell? ⟨gb133, 7, none⟩ = some (.string (⟨#[]⟩ : ByteArray)) := (blk_cell BK133.out 7).trans rfl
             have hfz59_0 := blk_frozen BK133.out 0
             have hfz59_1 := blk_frozen BK133.out 1
             have hfz59_2 := blk_frozen BK133.out 2
             have hfz59_3 := blk_frozen BK133.out 3
             have hfz59_4 := blk_frozen BK133.out 4
             have hfz59_5 := blk_frozen BK133.out 5
             have hfz59_6 := blk_frozen BK133.out 6
             have hfz59_7 := blk_frozen BK133.out 7
             have hcz60_0 : wc.cell? ⟨gb132, 0, none⟩ = some (.int .i64 0) := (blk_cell BK132.out 0).trans rfl
             have hcz60_1 : wc.cell? ⟨gb132, 1, none⟩ = some (.int .i64 0) := (blk_cell BK132.out 1).trans rfl
             have hcz60_2 : wc.cell? ⟨gb132, 2, none⟩ = some (.int .i64 0) := (blk_cell BK132.out 2).trans rfl
             have hcz60_3 : wc.cell? ⟨gb132, 3, none⟩ = some (.int .i64 0) := (blk_cell BK132.out 3).trans rfl
             have hcz60_4 : wc.cell? ⟨gb132, 4, none⟩ = some (.int .i64 0) := (blk_cell BK132.out 4).trans rfl
             have hcz60_5 : wc.cell? ⟨gb132, 5, none⟩ = some (.int .i64 0) := (blk_cell BK132.out 5).trans rfl
             have hcz60_6 : wc.cell? ⟨gb132, 6, none⟩ = some (.int .u32 0) := (blk_cell BK132.out 6).trans rfl
             have hcz60_7 : wc.cell? ⟨gb132, 7, none⟩ = some (.string (⟨#[]⟩ : ByteArray)) := (blk_cell BK132.out 7).trans rfl
             have hfz60_0 := blk_frozen BK132.out 0
             have hfz60_1 := blk_frozen BK132.out 1
             have hfz60_2 := blk_frozen BK132.out 2
             have hfz60_3 := blk_frozen BK132.out 3
             have hfz60_4 := blk_frozen BK132.out 4
             have hfz60_5 := blk_frozen BK132.out 5
             have hfz60_6 := blk_frozen BK132.out 6
             have hfz60_7 := blk_frozen BK132.out 7
             go_wp2
             repeat (go_quiet (fail); try go_wp2)
             refine bodyPost_ret (results_cell_row rfl _ _ gb132 33 #[.int .i64 0, .int .i64 0, .int .i64 0, .int .i64 0, .int .i64 0, .int .i64 0, .int .u32 0, .string (⟨#[]⟩ : ByteArray)] (0, 0) _ rfl (by (with_reducible repeat (first | refine blk_drewN ?_ _ | refine blk_drew ?_ | refine blk_alloc ?_ _)); refine blk_put (cs := #[.int .i64 0, .int .i64 0, .int .i64 0, .int .i64 0, .int .i64 0, .int .i64 0, .int .u32 0, .string (⟨#[]⟩ : ByteArray)]) ?_ 7 _ rfl; refine blk_put (cs := #[.int .i64 0, .int .i64 0, .int .i64 0, .int .i64 0, .int .i64 0, .int .i64 0, .int .u32 0, .string (⟨#[]⟩ : ByteArray)]) ?_ 6 _ rfl; refine blk_put (cs := #[.int .i64 0, .int .i64 0, .int .i64 0, .int .i64 0, .int .i64 0, .int .i64 0, .int .u32 0, .string (⟨#[]⟩ : ByteArray)]) ?_ 5 _ rfl; refine blk_put (cs := #[.int .i64 0, .int .i64 0, .int .i64 0, .int .i64 0, .int .i64 0, .int .i64 0, .int .u32 0, .string (⟨#[]⟩ : ByteArray)]) ?_ 4 _ rfl; refine blk_put (cs := #[.int .i64 0, .int .i64 0, .int .i64 0, .int .i64 0, .int .i64 0, .int .i64 0, .int .u32 0, .string (⟨#[]⟩ : ByteArray)]) ?_ 3 _ rfl; refine blk_put (cs := #[.int .i64 0, .int .i64 0, .int .i64 0, .int .i64 0, .int .i64 0, .int .i64 0, .int .u32 0, .string (⟨#[]⟩ : ByteArray)]) ?_ 2 _ rfl; refine blk_put (cs := #[.int .i64 0, .int .i64 0, .int .i64 0, .int .i64 0, .int .i64 0, .int .i64 0, .int .u32 0, .string (⟨#[]⟩ : ByteArray)]) ?_ 1 _ rfl; refine blk_put (cs := #[.int .i64 0, .int .i64 0, .int .i64 0, .int .i64 0, .int .i64 0, .int .i64 0, .int .u32 0, .string (⟨#[]⟩ : ByteArray)]) ?_ 0 _ rfl; (with_reducible repeat (first | refine blk_drewN ?_ _ | refine blk_drew ?_ | refine blk_alloc ?_ _)); exact BK132.out) Tryd.underlying33 rfl (by kernel_rfl)) rfl ?_
             exact ⟨by first | rfl | (simp [errW_none, errW_some] <;> rfl) | (simp [*, errW_none, errW_some] <;> rfl), by repeat (first | (with_reducible first | exact HB.out | apply below_alloc | apply pw_below_drewN | apply below_drew1 | refine below_set ?_ GE132.out | refine below_set ?_ GE133.out) | exact HB.out)⟩
         · rw [if_neg c40] at H
           have c40b0 : ((rdOf ByteArray.empty t134 0).toList == ([46, 119, 111, 114, 100] : List UInt8)) = false := beq_eq_false_iff_ne.mpr c40
           have c40b1 : ((rdOf ByteArray.empty t134 0).toList != ([46, 119, 111, 114, 100] : List UInt8)) = true := bne_iff_ne.mpr c40
           replace H := Option.bind_eq_some_iff.mp H
           obtain ⟨t148, A610, H⟩ := H
           replace H : (if t148 < 0 then (some (0, 0, 0, 0, 0, 0, 0, (⟨#[]⟩ : ByteArray))) else ((spec_FormOf.f t148).bind fun t149 => (spec_ReadLine.l0 kj8 t134 t148 t149 1 1 0 0 0 0 0 0 0 (⟨#[]⟩ : ByteArray) 3 t148 0 0 0 0 0 (⟨#[]⟩ : ByteArray)))) = some (r1, r2, r3, r4, r5, r6, r7, r8) := H
           have A61 := Aside0.mk A610
           clear A610
           by_cases c62 : t148 < 0
           · rw [if_pos c62] at H
             have c62b0 : decide (t148 < 0) = true := decide_eq_true c62
             clear c62
             simp only [Option.some.injEq, Prod.mk.injEq] at H
             obtain ⟨rfl, rfl, rfl, rfl, rfl, rfl, rfl, rfl⟩ := H
             obtain ⟨Ao63, co63, eo63⟩ := Kd.R_slice HO_4.out
             subst eo63
             have p143 : 0 ≤ (0 : Int) := (by omega)
             have q143 : 0 < (t134.length : Int) := of_decide_eq_true (by first | (with_reducible assumption) | assumption)
             obtain ⟨ad143, e143, hx143_0⟩ := Kd.at_string (Kd.R_reads' HO_4.out).2.2 0 p143 q143
             cases e143
             have qi143 : (0 < t134.length) = True := eq_true (by omega)
             (try rw [show ((0 : Int)).toNat = 0 from rfl] at hx143_0)
             (try rw [Addr.add_zero'] at hx143_0)
             replace p143 := eq_true p143
             replace q143 := eq_true q143
             have p147 : 0 ≤ (0 : Int) := (by omega)
             have q147 : 0 < (t134.length : Int) := of_decide_eq_true (by first | (with_reducible assumption) | assumption)
             obtain ⟨ad147, e147, hx147_0⟩ := Kd.at_string (Kd.R_reads' HO_4.out).2.2 0 p147 q147
             obtain rfl : ad143 = ad147 := (by injection e147)
             have qi147 : (0 < t134.length) = True := eq_true (by omega)
             (try rw [show ((0 : Int)).toNat = 0 from rfl] at hx147_0)
             (try rw [Addr.add_zero'] at hx147_0)
             replace p147 := eq_true p147
             replace q147 := eq_true q147
             go_wp2_with (first | (go_at_call 40; (with_reducible refine (spec_OpOf.calls kj8 (rdOf ByteArray.empty t134 0) t148 _ A61.out).mono ?_); rintro e w64 ⟨rfl, hb⟩; have n0_ := Aside0.mk (Kd.R_below (by (with_reducible repeat (first | apply Kd.R_alloc | apply Kd.R_drewN | apply Kd.R_drew)); exact HO_4.out) hb); have n1_ := Aside0.mk (blk_below (g := gb132) (o := .cells #[.int .i64 0, .int .i64 0, .int .i64 0, .int .i64 0, .int .i64 0, .int .i64 0, .int .u32 0, .string (⟨#[]⟩ : ByteArray)] 33 (0, 0)) (by (with_reducible repeat (first | refine blk_drewN ?_ _ | refine blk_drew ?_ | refine blk_alloc ?_ _)); exact BK132.out) hb); have n2_ := Aside0.mk (blk_below (g := gb133) (o := .cells #[.int .i64 0, .int .i64 0, .int .i64 0, .int .i64 0, .int .i64 0, .int .i64 0, .int .u32 0, .string (⟨#[]⟩ : ByteArray)] 33 (0, 0)) (by (with_reducible repeat (first | refine blk_drewN ?_ _ | refine blk_drew ?_ | refine blk_alloc ?_ _)); exact BK133.out) hb); have n3_ := Aside0.mk (below_step (by repeat (first | (with_reducible first | exact HB.out | apply below_alloc | apply pw_below_drewN | apply below_drew1 | refine below_set ?_ GE132.out | refine below_set ?_ GE133.out) | exact HB.out)) hb); clear HO_4; clear BK132; clear BK133; clear HB; have HO_4 := n0_; have BK132 := n1_; have BK133 := n2_; have HB := n3_; clear n0_ n1_ n2_ n3_; (try clear hb); (try clear hb2); (try clear hk); (try clear hi); have hnb65 := NB133_132.out; have hnc65 := NB132_133.out; have hcz66_0 : w64.cell? ⟨gb133, 0, none⟩ = some (.int .i64 0) := (blk_cell BK133.out 0).trans rfl; have hcz66_1 : w64.cell? ⟨gb133, 1, none⟩ = some (.int .i64 0) := (blk_cell BK133.out 1).trans rfl; have hcz66_2 : w64.cell? ⟨gb133, 2, none⟩ = some (.int .i64 0) := (blk_cell BK133.out 2).trans rfl; have hcz66_3 : w64.cell? ⟨gb133, 3, none⟩ = some (.int .i64 0) := (blk_cell BK133.out 3).trans rfl; have hcz66_4 : w64.cell? ⟨gb133, 4, none⟩ = some (.int .i64 0) := (blk_cell BK133.out 4).trans rfl; have hcz66_5 : w64.cell? ⟨gb133, 5, none⟩ = some (.int .i64 0) := (blk_cell BK133.out 5).trans rfl; have hcz66_6 : w64.cell? ⟨gb133, 6, none⟩ = some (.int .u32 0) := (blk_cell BK133.out 6).trans rfl; have hcz66_7 : w64.cell? ⟨gb133, 7, none⟩ = some (.string (⟨#[]⟩ : ByteArray)) := (blk_cell BK133.out 7).trans rfl; have hfz66_0 := blk_frozen BK133.out 0; have hfz66_1 := blk_frozen BK133.out 1; have hfz66_2 := blk_frozen BK133.out 2; have hfz66_3 := blk_frozen BK133.out 3; have hfz66_4 := blk_frozen BK133.out 4; have hfz66_5 := blk_frozen BK133.out 5; have hfz66_6 := blk_frozen BK133.out 6; have hfz66_7 := blk_frozen BK133.out 7; have hcz67_0 : w64.cell? ⟨gb132, 0, none⟩ = some (.int .i64 0) := (blk_cell BK132.out 0).trans rfl; have hcz67_1 : w64.cell? ⟨gb132, 1, none⟩ = some (.int .i64 0) := (blk_cell BK132.out 1).trans rfl; have hcz67_2 : w64.cell? ⟨gb132, 2, none⟩ = some (.int .i64 0) := (blk_cell BK132.out 2).trans rfl; have hcz67_3 : w64.cell? ⟨gb132, 3, none⟩ = some (.int .i64 0) := (blk_cell BK132.out 3).trans rfl; have hcz67_4 : w64.cell? ⟨gb132, 4, none⟩ = some (.int .i64 0) := (blk_cell BK132.out 4).trans rfl; have hcz67_5 : w64.cell? ⟨gb132, 5, none⟩ = some (.int .i64 0) := (blk_cell BK132.out 5).trans rfl; have hcz67_6 : w64.cell? ⟨gb132, 6, none⟩ = some (.int .u32 0) := (blk_cell BK132.out 6).trans rfl; have hcz67_7 : w64.cell? ⟨gb132, 7, none⟩ = some (.string (⟨#[]⟩ : ByteArray)) := (blk_cell BK132.out 7).trans rfl; have hfz67_0 := blk_frozen BK132.out 0; have hfz67_1 := blk_frozen BK132.out 1; have hfz67_2 := blk_frozen BK132.out 2; have hfz67_3 := blk_frozen BK132.out 3; have hfz67_4 := blk_frozen BK132.out 4; have hfz67_5 := blk_frozen BK132.out 5; have hfz67_6 := blk_frozen BK132.out 6; have hfz67_7 := blk_frozen BK132.out 7))
             refine bodyPost_ret (results_cell_row rfl _ _ gb132 33 #[.int .i64 0, .int .i64 0, .int .i64 0, .int .i64 0, .int .i64 0, .int .i64 0, .int .u32 0, .string (⟨#[]⟩ : ByteArray)] (0, 0) _ rfl (by (with_reducible repeat (first | refine blk_drewN ?_ _ | refine blk_drew ?_ | refine blk_alloc ?_ _)); refine blk_put (cs := #[.int .i64 0, .int .i64 0, .int .i64 0, .int .i64 0, .int .i64 0, .int .i64 0, .int .u32 0, .string (⟨#[]⟩ : ByteArray)]) ?_ 7 _ rfl; refine blk_put (cs := #[.int .i64 0, .int .i64 0, .int .i64 0, .int .i64 0, .int .i64 0, .int .i64 0, .int .u32 0, .string (⟨#[]⟩ : ByteArray)]) ?_ 6 _ rfl; refine blk_put (cs := #[.int .i64 0, .int .i64 0, .int .i64 0, .int .i64 0, .int .i64 0, .int .i64 0, .int .u32 0, .string (⟨#[]⟩ : ByteArray)]) ?_ 5 _ rfl; refine blk_put (cs := #[.int .i64 0, .int .i64 0, .int .i64 0, .int .i64 0, .int .i64 0, .int .i64 0, .int .u32 0, .string (⟨#[]⟩ : ByteArray)]) ?_ 4 _ rfl; refine blk_put (cs := #[.int .i64 0, .int .i64 0, .int .i64 0, .int .i64 0, .int .i64 0, .int .i64 0, .int .u32 0, .string (⟨#[]⟩ : ByteArray)]) ?_ 3 _ rfl; refine blk_put (cs := #[.int .i64 0, .int .i64 0, .int .i64 0, .int .i64 0, .int .i64 0, .int .i64 0, .int .u32 0, .string (⟨#[]⟩ : ByteArray)]) ?_ 2 _ rfl; refine blk_put (cs := #[.int .i64 0, .int .i64 0, .int .i64 0, .int .i64 0, .int .i64 0, .int .i64 0, .int .u32 0, .string (⟨#[]⟩ : ByteArray)]) ?_ 1 _ rfl; refine blk_put (cs := #[.int .i64 0, .int .i64 0, .int .i64 0, .int .i64 0, .int .i64 0, .int .i64 0, .int .u32 0, .string (⟨#[]⟩ : ByteArray)]) ?_ 0 _ rfl; (with_reducible repeat (first | refine blk_drewN ?_ _ | refine blk_drew ?_ | refine blk_alloc ?_ _)); exact BK132.out) Tryd.underlying33 rfl (by kernel_rfl)) rfl ?_
             exact ⟨by first | rfl | (simp [errW_none, errW_some] <;> rfl) | (simp [*, errW_none, errW_some] <;> rfl), by repeat (first | (with_reducible first | exact HB.out | apply below_alloc | apply pw_below_drewN | apply below_drew1 | refine below_set ?_ GE132.out | refine below_set ?_ GE133.out) | exact HB.out)⟩
           · rw [if_neg c62] at H
             have c62b0 : decide (t148 < 0) = false := decide_eq_false c62
             clear c62
             replace H := Option.bind_eq_some_iff.mp H
             obtain ⟨t149, A680, H⟩ := H
             replace H : (spec_ReadLine.l0 kj8 t134 t148 t149 1 1 0 0 0 0 0 0 0 (⟨#[]⟩ : ByteArray) 3 t148 0 0 0 0 0 (⟨#[]⟩ : ByteArray)) = some (r1, r2, r3, r4, r5, r6, r7, r8) := H
             have A68 := Aside0.mk A680
             clear A680
             have H' := Aside0.mk H
             clear H
             obtain ⟨Ao69, co69, eo69⟩ := Kd.R_slice HO_4.out
             subst eo69
             have p143 : 0 ≤ (0 : Int) := (by omega)
             have q143 : 0 < (t134.length : Int) := of_decide_eq_true (by first | (with_reducible assumption) | assumption)
             obtain ⟨ad143, e143, hx143_0⟩ := Kd.at_string (Kd.R_reads' HO_4.out).2.2 0 p143 q143
             cases e143
             have qi143 : (0 < t134.length) = True := eq_true (by omega)
             (try rw [show ((0 : Int)).toNat = 0 from rfl] at hx143_0)
             (try rw [Addr.add_zero'] at hx143_0)
             replace p143 := eq_true p143
             replace q143 := eq_true q143
             have p147 : 0 ≤ (0 : Int) := (by omega)
             have q147 : 0 < (t134.length : Int) := of_decide_eq_true (by first | (with_reducible assumption) | assumption)
             obtain ⟨ad147, e147, hx147_0⟩ := Kd.at_string (Kd.R_reads' HO_4.out).2.2 0 p147 q147
             obtain rfl : ad143 = ad147 := (by injection e147)
             have qi147 : (0 < t134.length) = True := eq_true (by omega)
             (try rw [show ((0 : Int)).toNat = 0 from rfl] at hx147_0)
             (try rw [Addr.add_zero'] at hx147_0)
             replace p147 := eq_true p147
             replace q147 := eq_true q147
             go_wp2_with (first | (go_at_call 40; (with_reducible refine (spec_OpOf.calls kj8 (rdOf ByteArray.empty t134 0) t148 _ A61.out).mono ?_); rintro e w70 ⟨rfl, hb⟩; have n0_ := Aside0.mk (Kd.R_below (by (with_reducible repeat (first | apply Kd.R_alloc | apply Kd.R_drewN | apply Kd.R_drew)); exact HO_4.out) hb); have n1_ := Aside0.mk (blk_below (g := gb132) (o := .cells #[.int .i64 0, .int .i64 0, .int .i64 0, .int .i64 0, .int .i64 0, .int .i64 0, .int .u32 0, .string (⟨#[]⟩ : ByteArray)] 33 (0, 0)) (by (with_reducible repeat (first | refine blk_drewN ?_ _ | refine blk_drew ?_ | refine blk_alloc ?_ _)); exact BK132.out) hb); have n2_ := Aside0.mk (blk_below (g := gb133) (o := .cells #[.int .i64 0, .int .i64 0, .int .i64 0, .int .i64 0, .int .i64 0, .int .i64 0, .int .u32 0, .string (⟨#[]⟩ : ByteArray)] 33 (0, 0)) (by (with_reducible repeat (first | refine blk_drewN ?_ _ | refine blk_drew ?_ | refine blk_alloc ?_ _)); exact BK133.out) hb); have n3_ := Aside0.mk (below_step (by repeat (first | (with_reducible first | exact HB.out | apply below_alloc | apply pw_below_drewN | apply below_drew1 | refine below_set ?_ GE132.out | refine below_set ?_ GE133.out) | exact HB.out)) hb); clear HO_4; clear BK132; clear BK133; clear HB; have HO_4 := n0_; have BK132 := n1_; have BK133 := n2_; have HB := n3_; clear n0_ n1_ n2_ n3_; (try clear hb); (try clear hb2); (try clear hk); (try clear hi)) | (go_at_call 28; (with_reducible refine (spec_FormOf.calls t148 t149 _ A68.out).mono ?_); rintro e w71 ⟨rfl, hb⟩; have n0_ := Aside0.mk (Kd.R_below (by (with_reducible repeat (first | apply Kd.R_alloc | apply Kd.R_drewN | apply Kd.R_drew)); exact HO_4.out) hb); have n1_ := Aside0.mk (blk_below (g := gb132) (o := .cells #[.int .i64 0, .int .i64 0, .int .i64 0, .int .i64 0, .int .i64 0, .int .i64 0, .int .u32 0, .string (⟨#[]⟩ : ByteArray)] 33 (0, 0)) (by (with_reducible repeat (first | refine blk_drewN ?_ _ | refine blk_drew ?_ | refine blk_alloc ?_ _)); exact BK132.out) hb); have n2_ := Aside0.mk (blk_below (g := gb133) (o := .cells #[.int .i64 0, .int .i64 0, .int .i64 0, .int .i64 0, .int .i64 0, .int .i64 0, .int .u32 0, .string (⟨#[]⟩ : ByteArray)] 33 (0, 0)) (by (with_reducible repeat (first | refine blk_drewN ?_ _ | refine blk_drew ?_ | refine blk_alloc ?_ _)); exact BK133.out) hb); have n3_ := Aside0.mk (below_step (by repeat (first | (with_reducible first | exact HB.out | apply below_alloc | apply pw_below_drewN | apply below_drew1 | refine below_set ?_ GE132.out | refine below_set ?_ GE133.out) | exact HB.out)) hb); clear HO_4; clear BK132; clear BK133; clear HB; have HO_4 := n0_; have BK132 := n1_; have BK133 := n2_; have HB := n3_; clear n0_ n1_ n2_ n3_; (try clear hb); (try clear hb2); (try clear hk); (try clear hi)) | ((with_reducible refine gate_dst (N := 10) rfl ?_); (try (refine gate_guard (by rfl) ?_; dsimp only)); refine box_event ?hg (N := 10) ?hd (cs := #[.int .i64 0, .int .i64 0, .int .i64 0, .int .i64 0, .int .i64 0, .int .i64 0, .int .u32 0, .string (⟨#[]⟩ : ByteArray)]) (t := 33) ?hr ?_; (case hd => rfl); (case hg => rfl); (case hr => first | (go_simp; done) | (go_simp; rfl)); intro gb150 hg w72 hbox hb; have n0_ := Aside0.mk (Kd.R_below (by (with_reducible repeat (first | apply Kd.R_alloc | apply Kd.R_drewN | apply Kd.R_drew)); exact HO_4.out) hb); have n1_ := Aside0.mk (blk_below (g := gb132) (o := .cells #[.int .i64 0, .int .i64 0, .int .i64 0, .int .i64 0, .int .i64 0, .int .i64 0, .int .u32 0, .string (⟨#[]⟩ : ByteArray)] 33 (0, 0)) (by (with_reducible repeat (first | refine blk_drewN ?_ _ | refine blk_drew ?_ | refine blk_alloc ?_ _)); exact BK132.out) hb); have n2_ := Aside0.mk (blk_below (g := gb133) (o := .cells #[.int .i64 0, .int .i64 0, .int .i64 0, .int .i64 0, .int .i64 0, .int .i64 0, .int .u32 0, .string (⟨#[]⟩ : ByteArray)] 33 (0, 0)) (by (with_reducible repeat (first | refine blk_drewN ?_ _ | refine blk_drew ?_ | refine blk_alloc ?_ _)); exact BK133.out) hb); have n3_ := Aside0.mk (below_step (by repeat (first | (with_reducible first | exact HB.out | apply below_alloc | apply pw_below_drewN | apply below_drew1 | refine below_set ?_ GE132.out | refine below_set ?_ GE133.out) | exact HB.out)) hb); have n4_ := Aside0.mk (hbox); have n5_ := Aside0.mk ((by rw [hg]; exact (below_size (by repeat (first | (with_reducible first | exact HB.out | apply below_alloc | apply pw_below_drewN | apply below_drew1 | refine below_set ?_ GE132.out | refine below_set ?_ GE133.out) | exact HB.out))) : w.heap.size ≤ gb150)); have n6_ := Aside0.mk ((by rw [hg]; exact (below_size (by repeat (first | (with_reducible first | exact HB.out | apply below_alloc | apply pw_below_drewN | apply below_drew1 | refine below_set ?_ GE132.out | refine below_set ?_ GE133.out) | exact HB.out))) : w.heap.size ≤ gb150)); have n7_ := Aside0.mk ((by rw [hg]; exact Nat.ne_of_lt (blk_lt (g := gb132) (o := .cells #[.int .i64 0, .int .i64 0, .int .i64 0, .int .i64 0, .int .i64 0, .int .i64 0, .int .u32 0, .string (⟨#[]⟩ : ByteArray)] 33 (0, 0)) (by (with_reducible repeat (first | refine blk_drewN ?_ _ | refine blk_drew ?_ | refine blk_alloc ?_ _)); exact BK132.out)) : gb132 ≠ gb150)); have n8_ := Aside0.mk ((by rw [hg]; exact Nat.ne_of_gt (blk_lt (g := gb132) (o := .cells #[.int .i64 0, .int .i64 0, .int .i64 0, .int .i64 0, .int .i64 0, .int .i64 0, .int .u32 0, .string (⟨#[]⟩ : ByteArray)] 33 (0, 0)) (by (with_reducible repeat (first | refine blk_drewN ?_ _ | refine blk_drew ?_ | refine blk_alloc ?_ _)); exact BK132.out)) : gb150 ≠ gb132)); have n9_ := Aside0.mk ((by rw [hg]; exact Nat.ne_of_lt (blk_lt (g := gb133) (o := .cells #[.int .i64 0, .int .i64 0, .int .i64 0, .int .i64 0, .int .i64 0, .int .i64 0, .int .u32 0, .string (⟨#[]⟩ : ByteArray)] 33 (0, 0)) (by (with_reducible repeat (first | refine blk_drewN ?_ _ | refine blk_drew ?_ | refine blk_alloc ?_ _)); exact BK133.out)) : gb133 ≠ gb150)); have n10_ := Aside0.mk ((by rw [hg]; exact Nat.ne_of_gt (blk_lt (g := gb133) (o := .cells #[.int .i64 0, .int .i64 0, .int .i64 0, .int .i64 0, .int .i64 0, .int .i64 0, .int .u32 0, .string (⟨#[]⟩ : ByteArray)] 33 (0, 0)) (by (with_reducible repeat (first | refine blk_drewN ?_ _ | refine blk_drew ?_ | refine blk_alloc ?_ _)); exact BK133.out)) : gb150 ≠ gb133)); clear HO_4; clear BK132; clear BK133; clear HB; have HO_4 := n0_; have BK132 := n1_; have BK133 := n2_; have HB := n3_; have BK150 := n4_; have GW150 := n5_; have GE150 := n6_; have NB132_150 := n7_; have NB150_132 := n8_; have NB133_150 := n9_; have NB150_133 := n10_; clear n0_ n1_ n2_ n3_ n4_ n5_ n6_ n7_ n8_ n9_ n10_; clear hb hbox hg; have hnb73 := NB150_132.out; have hnc73 := NB132_150.out; have hnb74 := NB150_133.out; have hnc74 := NB133_150.out; have hcz75_0 : w72.cell? ⟨gb150, 0, none⟩ = some (.int .i64 0) := (blk_cell BK150.out 0).trans rfl; have hcz75_1 : w72.cell? ⟨gb150, 1, none⟩ = some (.int .i64 0) := (blk_cell BK150.out 1).trans rfl; have hcz75_2 : w72.cell? ⟨gb150, 2, none⟩ = some (.int .i64 0) := (blk_cell BK150.out 2).trans rfl; have hcz75_3 : w72.cell? ⟨gb150, 3, none⟩ = some (.int .i64 0) := (blk_cell BK150.out 3).trans rfl; have hcz75_4 : w72.cell? ⟨gb150, 4, none⟩ = some (.int .i64 0) := (blk_cell BK150.out 4).trans rfl; have hcz75_5 : w72.cell? ⟨gb150, 5, none⟩ = some (.int .i64 0) := (blk_cell BK150.out 5).trans rfl; have hcz75_6 : w72.cell? ⟨gb150, 6, none⟩ = some (.int .u32 0) := (blk_cell BK150.out 6).trans rfl; have hcz75_7 : w72.cell? ⟨gb150, 7, none⟩ = some (.string (⟨#[]⟩ : ByteArray)) := (blk_cell BK150.out 7).trans rfl; have hfz75_0 := blk_frozen BK150.out 0; have hfz75_1 := blk_frozen BK150.out 1; have hfz75_2 := blk_frozen BK150.out 2; have hfz75_3 := blk_frozen BK150.out 3; have hfz75_4 := blk_frozen BK150.out 4; have hfz75_5 := blk_frozen BK150.out 5; have hfz75_6 := blk_frozen BK150.out 6; have hfz75_7 := blk_frozen BK150.out 7))
             go_loopg [11, 12] kj8 (fun kq v11 v12 w' => ∃ (x11_2 : Int) (x12_2 : Int) (x133000_2 : Int) (x133001_2 : Int) (x133002_2 : Int) (x133003_2 : Int) (x133004_2 : Int) (x133005_2 : Int) (x133006_2 : Int) (x133007_2 : ByteArray) (x151002_2 : Int) (x151003_2 : Int) (x151004_2 : Int), v11 = .int .i64 x11_2 ∧ v12 = .int .i64 x12_2 ∧ Aside0 (spec_ReadLine.l0 kq t134 t148 t149 x11_2 x12_2 0 0 0 0 0 0 0 (⟨#[]⟩ : ByteArray) 3 t148 x151002_2 x151003_2 x151004_2 0 0 (⟨#[]⟩ : ByteArray) = some (r1, r2, r3, r4, r5, r6, r7, r8)) ∧ Aside0 (kq ≤ kj8) ∧ Aside0 (Kd.R Kd.string 9 w' w.heap.size (fun _ => True) (.slice (some ad143) t134.length co69) t134) ∧ Aside0 (w'.heap[gb132]? = some (.cells #[.int .i64 x133000_2, .int .i64 x133001_2, .int .i64 x133002_2, .int .i64 x133003_2, .int .i64 x133004_2, .int .i64 x133005_2, .int .u32 x133006_2, .string x133007_2] 33 (0, 0))) ∧ Aside0 (w'.heap[gb133]? = some (.cells #[.int .i64 0, .int .i64 0, .int .i64 0, .int .i64 0, .int .i64 0, .int .i64 0, .int .u32 0, .string (⟨#[]⟩ : ByteArray)] 33 (0, 0))) ∧ Aside0 (w'.heap[gb150]? = some (.cells #[.int .i64 3, .int .i64 t148, .int .i64 x151002_2, .int .i64 x151003_2, .int .i64 x151004_2, .int .i64 0, .int .u32 0, .string (⟨#[]⟩ : ByteArray)] 33 (0, 0))) ∧ Aside0 (Below w.heap.size w w'))
             case atStart => exact ⟨(1), (1), (0), (0), (0), (0), (0), (0), (0), ((⟨#[]⟩ : ByteArray)), (0), (0), (0), (by first | rfl | (simp; done) | (simp [*]; done)), (by first | rfl | (simp; done) | (simp [*]; done)), H', ⟨Nat.le_refl _⟩, ⟨by (with_reducible repeat (first | apply Kd.R_alloc | apply Kd.R_drewN | apply Kd.R_drew)); exact Kd.R_mono (Kd.R_far (p := ⟨gb150, 1, none⟩) (Kd.R_far (p := ⟨gb150, 7, none⟩) (Kd.R_far (p := ⟨gb150, 6, none⟩) (Kd.R_far (p := ⟨gb150, 5, none⟩) (Kd.R_far (p := ⟨gb150, 4, none⟩) (Kd.R_far (p := ⟨gb150, 3, none⟩) (Kd.R_far (p := ⟨gb150, 2, none⟩) (Kd.R_far (p := ⟨gb150, 1, none⟩) (Kd.R_far (p := ⟨gb150, 0, none⟩) (Kd.R_types HO_4.out BK150.out (by decide)) (fun _ hk => hk.2) (.int .i64 3)) (fun _ hk => hk.2) (.int .i64 0)) (fun _ hk => hk.2) (.int .i64 0)) (fun _ hk => hk.2) (.int .i64 0)) (fun _ hk => hk.2) (.int .i64 0)) (fun _ hk => hk.2) (.int .i64 0)) (fun _ hk => hk.2) (.int .u32 0)) (fun _ hk => hk.2) (.string (⟨#[]⟩ : ByteArray))) (fun _ hk => hk.2) (.int .i64 t148)) (fun _ hk => trivial)⟩, ⟨by (with_reducible repeat (first | refine blk_drewN ?_ _ | refine blk_drew ?_ | refine blk_alloc ?_ _)); refine blk_far ?_ NB132_150.out _; (with_reducible repeat (first | refine blk_drewN ?_ _ | refine blk_drew ?_ | refine blk_alloc ?_ _)); refine blk_far ?_ NB132_150.out _; (with_reducible repeat (first | refine blk_drewN ?_ _ | refine blk_drew ?_ | refine blk_alloc ?_ _)); refine blk_far ?_ NB132_150.out _; (with_reducible repeat (first | refine blk_drewN ?_ _ | refine blk_drew ?_ | refine blk_alloc ?_ _)); refine blk_far ?_ NB132_150.out _; (with_reducible repeat (first | refine blk_drewN ?_ _ | refine blk_drew ?_ | refine blk_alloc ?_ _)); refine blk_far ?_ NB132_150.out _; (with_reducible repeat (first | refine blk_drewN ?_ _ | refine blk_drew ?_ | refine blk_alloc ?_ _)); refine blk_far ?_ NB132_150.out _; (with_reducible repeat (first | refine blk_drewN ?_ _ | refine blk_drew ?_ | refine blk_alloc ?_ _)); refine blk_far ?_ NB132_150.out _; (with_reducible repeat (first | refine blk_drewN ?_ _ | refine blk_drew ?_ | refine blk_alloc ?_ _)); refine blk_far ?_ NB132_150.out _; (with_reducible repeat (first | refine blk_drewN ?_ _ | refine blk_drew ?_ | refine blk_alloc ?_ _)); refine blk_far ?_ NB132_150.out _; (with_reducible repeat (first | refine blk_drewN ?_ _ | refine blk_drew ?_ | refine blk_alloc ?_ _)); exact BK132.out⟩, ⟨by (with_reducible repeat (first | refine blk_drewN ?_ _ | refine blk_drew ?_ | refine blk_alloc ?_ _)); refine blk_far ?_ NB133_150.out _; (with_reducible repeat (first | refine blk_drewN ?_ _ | refine blk_drew ?_ | refine blk_alloc ?_ _)); refine blk_far ?_ NB133_150.out _; (with_reducible repeat (first | refine blk_drewN ?_ _ | refine blk_drew ?_ | refine blk_alloc ?_ _)); refine blk_far ?_ NB133_150.out _; (with_reducible repeat (first | refine blk_drewN ?_ _ | refine blk_drew ?_ | refine blk_alloc ?_ _)); refine blk_far ?_ NB133_150.out _; (with_reducible repeat (first | refine blk_drewN ?_ _ | refine blk_drew ?_ | refine blk_alloc ?_ _)); refine blk_far ?_ NB133_150.out _; (with_reducible repeat (first | refine blk_drewN ?_ _ | refine blk_drew ?_ | refine blk_alloc ?_ _)); refine blk_far ?_ NB133_150.out _; (with_reducible repeat (first | refine blk_drewN ?_ _ | refine blk_drew ?_ | refine blk_alloc ?_ _)); refine blk_far ?_ NB133_150.out _; (with_reducible repeat (first | refine blk_drewN ?_ _ | refine blk_drew ?_ | refine blk_alloc ?_ _)); refine blk_far ?_ NB133_150.out _; (with_reducible repeat (first | refine blk_drewN ?_ _ | refine blk_drew ?_ | refine blk_alloc ?_ _)); refine blk_far ?_ NB133_150.out _; (with_reducible repeat (first | refine blk_drewN ?_ _ | refine blk_drew ?_ | refine blk_alloc ?_ _)); exact BK133.out⟩, ⟨by (with_reducible repeat (first | refine blk_drewN ?_ _ | refine blk_drew ?_ | refine blk_alloc ?_ _)); refine blk_put (cs := #[.int .i64 3, .int .i64 0, .int .i64 0, .int .i64 0, .int .i64 0, .int .i64 0, .int .u32 0, .string (⟨#[]⟩ : ByteArray)]) ?_ 1 _ rfl; (with_reducible repeat (first | refine blk_drewN ?_ _ | refine blk_drew ?_ | refine blk_alloc ?_ _)); refine blk_put (cs := #[.int .i64 3, .int .i64 0, .int .i64 0, .int .i64 0, .int .i64 0, .int .i64 0, .int .u32 0, .string (⟨#[]⟩ : ByteArray)]) ?_ 7 _ rfl; refine blk_put (cs := #[.int .i64 3, .int .i64 0, .int .i64 0, .int .i64 0, .int .i64 0, .int .i64 0, .int .u32 0, .string (⟨#[]⟩ : ByteArray)]) ?_ 6 _ rfl; refine blk_put (cs := #[.int .i64 3, .int .i64 0, .int .i64 0, .int .i64 0, .int .i64 0, .int .i64 0, .int .u32 0, .string (⟨#[]⟩ : ByteArray)]) ?_ 5 _ rfl; refine blk_put (cs := #[.int .i64 3, .int .i64 0, .int .i64 0, .int .i64 0, .int .i64 0, .int .i64 0, .int .u32 0, .string (⟨#[]⟩ : ByteArray)]) ?_ 4 _ rfl; refine blk_put (cs := #[.int .i64 3, .int .i64 0, .int .i64 0, .int .i64 0, .int .i64 0, .int .i64 0, .int .u32 0, .string (⟨#[]⟩ : ByteArray)]) ?_ 3 _ rfl; refine blk_put (cs := #[.int .i64 3, .int .i64 0, .int .i64 0, .int .i64 0, .int .i64 0, .int .i64 0, .int .u32 0, .string (⟨#[]⟩ : ByteArray)]) ?_ 2 _ rfl; refine blk_put (cs := #[.int .i64 3, .int .i64 0, .int .i64 0, .int .i64 0, .int .i64 0, .int .i64 0, .int .u32 0, .string (⟨#[]⟩ : ByteArray)]) ?_ 1 _ rfl; refine blk_put (cs := #[.int .i64 0, .int .i64 0, .int .i64 0, .int .i64 0, .int .i64 0, .int .i64 0, .int .u32 0, .string (⟨#[]⟩ : ByteArray)]) ?_ 0 _ rfl; (with_reducible repeat (first | refine blk_drewN ?_ _ | refine blk_drew ?_ | refine blk_alloc ?_ _)); exact BK150.out⟩, ⟨by repeat (first | (with_reducible first | exact HB.out | apply below_alloc | apply pw_below_drewN | apply below_drew1 | refine below_set ?_ GE132.out | refine below_set ?_ GE133.out | refine below_set ?_ GE150.out) | exact HB.out)⟩⟩
             case round =>
              clear H'
              try clear c1
              try clear p1
              try clear q1
              try clear hx1
              try clear qi1
              try clear c2
              try clear c2b0
              try clear c2b1
              try clear p2
              try clear q2
              try clear hx2
              try clear c3
              try clear c4
              try clear c5
              try clear c6
              try clear p6
              try clear c7
              try clear c12
              try clear p13
              try clear q13
              try clear hx13
              try clear qi13
              try clear p14
              try clear q14
              try clear hx14
              try clear qi14
              try clear c15
              try clear c15b0
              try clear c15b1
              try clear c16
              try clear c16b0
              try clear c16b1
              try clear c17
              try clear c17b0
              try clear c17b1
              try clear c19
              try clear c19b0
              try clear c20
              try clear c20b0
              try clear p21
              try clear q21
              try clear hx21
              try clear c25
              try clear c26
              try clear c26b0
              try clear c26b1
              try clear c28
              try clear c28b0
              try clear c28b1
              try clear c29
              try clear c29b0
              try clear c29b1
              try clear c31
              try clear c33
              try clear c36
              try clear c39
              try clear c39b0
              try clear c39b1
              try clear c40
              try clear c40b0
              try clear c40b1
              try clear c41
              try clear c41b0
              try clear c41b1
              try clear c42
              try clear c42b0
              try clear c42b1
              try clear c44
              try clear c45
              try clear c45b0
              try clear c47
              try clear c51
              try clear c54
              try clear c58
              try clear c62
              try clear c62b0
              try clear p64
              try clear c65
              try clear c73
              try clear c74
              try clear hx137_0
              try clear hx138_0
              try clear hx139_0
              try clear hx140_0
              try clear hx141_0
              try clear hx143_0
              try clear hx144_0
              try clear hx147_0
              try clear p1
              try clear p13
              try clear p137
              try clear p138
              try clear p139
              try clear p140
              try clear p141
              try clear p143
              try clear p144
              try clear p147
              try clear p2
              try clear p21
              try clear p6
              try clear q1
              try clear q13
              try clear q137
              try clear q138
              try clear q139
              try clear q140
              try clear q141
              try clear q143
              try clear q144
              try clear q147
              try clear q2
              try clear q21
              obtain ⟨x11_2, x12_2, x133000_2, x133001_2, x133002_2, x133003_2, x133004_2, x133005_2, x133006_2, x133007_2, x151002_2, x151003_2, x151004_2, rfl, rfl, HA, HK2, HO_4, BK132, BK133, BK150, HB⟩ := hrel
              cases gk with
              | zero => exact absurd HA.out (by simp [spec_ReadLine.l0])
              | succ k2 =>
               have H := HA.out
               clear HA
               simp only [spec_ReadLine.l0] at H
               by_cases c76 : x12_2 ≤ 4
               · rw [if_pos c76] at H
                 have c76b0 : decide (x12_2 ≤ 4) = true := decide_eq_true c76
                 clear c76
                 by_cases c77 : x12_2 = 0
                 · rw [if_pos c77] at H
                   exact absurd H (by simp)
                 · rw [if_neg c77] at H
                   have c77b0 : (x12_2 == 0) = false := beq_eq_false_iff_ne.mpr c77
                   have c77b1 : (x12_2 != 0) = true := bne_iff_ne.mpr c77
                   by_cases c78 : (Int.tmod (wrap64 (Int.tdiv t149 x12_2)) 2) = 1
                   · rw [if_pos c78] at H
                     have c78b0 : ((Int.tmod (wrap64 (Int.tdiv t149 x12_2)) 2) == 1) = true := beq_iff_eq.mpr c78
                     have c78b1 : ((Int.tmod (wrap64 (Int.tdiv t149 x12_2)) 2) != 1) = false := bne_eq_false_iff_eq.mpr c78
                     clear c78
                     have HC79 := Aside0.mk H
                     clear H
                     go_upto_region 28 with (fail)
                     repeat (go_quiet (fail); go_upto_region 28 with (fail))
                     go_cut [118] (fun v118 wc => ∃ (kq : Nat) (x118_78 : Bool), v118 = .bool x118_78 ∧ Aside0 (spec_ReadLine.j2 kq t134 t148 t149 x11_2 x12_2 x118_78 0 0 0 0 0 0 0 (⟨#[]⟩ : ByteArray) 3 t148 x151002_2 x151003_2 x151004_2 0 0 (⟨#[]⟩ : ByteArray) = some (r1, r2, r3, r4, r5, r6, r7, r8)) ∧ Aside0 (kq ≤ k2) ∧ Aside0 (Kd.R Kd.string 9 wc w.heap.size (fun _ => True) (.slice (some ad143) t134.length co69) t134) ∧ Aside0 (wc.heap[gb132]? = some (.cells #[.int .i64 x133000_2, .int .i64 x133001_2, .int .i64 x133002_2, .int .i64 x133003_2, .int .i64 x133004_2, .int .i64 x133005_2, .int .u32 x133006_2, .string x133007_2] 33 (0, 0))) ∧ Aside0 (wc.heap[gb133]? = some (.cells #[.int .i64 0, .int .i64 0, .int .i64 0, .int .i64 0, .int .i64 0, .int .i64 0, .int .u32 0, .string (⟨#[]⟩ : ByteArray)] 33 (0, 0))) ∧ Aside0 (wc.heap[gb150]? = some (.cells #[.int .i64 3, .int .i64 t148, .int .i64 x151002_2, .int .i64 x151003_2, .int .i64 x151004_2, .int .i64 0, .int .u32 0, .string (⟨#[]⟩ : ByteArray)] 33 (0, 0))) ∧ Aside0 (Below w.heap.size w wc))
                     case first =>
                      have H := HC79.out
                      clear HC79
                      by_cases c80 : x11_2 ≥ (t134.length : Int)
                      · rw [if_pos c80] at H
                        have c80b0 : decide ((t134.length : Int) ≤ x11_2) = true := decide_eq_true c80
                        clear c80
                        (first | rw [c80b0] | (simp only [i64_w, i32_w]; rw [c80b0]) | skip)
                        have H' := Aside0.mk H
                        clear H
                        go_wp2
                        repeat (go_quiet (fail); try go_wp2)
                        go_meet
                        case rel => exact ⟨_, (true), (by first | rfl | (simp; done) | (simp [*]; done)), H', ⟨by have := HJ8.out; have := HK2.out; first | omega | exact Nat.le_refl _⟩, ⟨by (with_reducible repeat (first | apply Kd.R_alloc | apply Kd.R_drewN | apply Kd.R_drew)); exact HO_4.out⟩, ⟨by (with_reducible repeat (first | refine blk_drewN ?_ _ | refine blk_drew ?_ | refine blk_alloc ?_ _)); exact BK132.out⟩, ⟨by (with_reducible repeat (first | refine blk_drewN ?_ _ | refine blk_drew ?_ | refine blk_alloc ?_ _)); exact BK133.out⟩, ⟨by (with_reducible repeat (first | refine blk_drewN ?_ _ | refine blk_drew ?_ | refine blk_alloc ?_ _)); exact BK150.out⟩, ⟨by repeat (first | (with_reducible first | exact HB.out | apply below_alloc | apply pw_below_drewN | apply below_drew1 | refine below_set ?_ GE132.out | refine below_set ?_ GE133.out | refine below_set ?_ GE150.out) | exact HB.out)⟩⟩
                      · rw [if_neg c80] at H
                        have c80b0 : decide ((t134.length : Int) ≤ x11_2) = false := decide_eq_false c80
                        clear c80
                        (first | rw [c80b0] | (simp only [i64_w, i32_w]; rw [c80b0]) | skip)
                        by_cases c81 : 0 ≤ x11_2
                        · rw [if_pos c81] at H
                          have c81b0 : decide (0 ≤ x11_2) = true := decide_eq_true c81
                          clear c81
                          by_cases c82 : x11_2 < (t134.length : Int)
                          · rw [if_pos c82] at H
                            have c82b0 : decide (x11_2 < (t134.length : Int)) = true := decide_eq_true c82
                            clear c82
                            replace H := Option.bind_eq_some_iff.mp H
                            obtain ⟨t152, A830, H⟩ := H
                            replace H : (spec_ReadLine.j2 k2 t134 t148 t149 x11_2 x12_2 (decide (t152 < 0)) 0 0 0 0 0 0 0 (⟨#[]⟩ : ByteArray) 3 t148 x151002_2 x151003_2 x151004_2 0 0 (⟨#[]⟩ : ByteArray)) = some (r1, r2, r3, r4, r5, r6, r7, r8) := H
                            have A83 := Aside0.mk A830
                            clear A830
                            have H' := Aside0.mk H
                            clear H
                            have p151 : 0 ≤ (x11_2 : Int) := of_decide_eq_true (by first | (with_reducible assumption) | assumption)
                            have q151 : x11_2 < (t134.length : Int) := of_decide_eq_true (by first | (with_reducible assumption) | assumption)
                            obtain ⟨ad151, e151, hx151_0⟩ := Kd.at_string (Kd.R_reads' HO_4.out).2.2 x11_2 p151 q151
                            obtain rfl : ad143 = ad151 := (by injection e151)
                            replace p151 := eq_true p151
                            replace q151 := eq_true q151
                            go_wp2_with (first | (go_at_call 41; (with_reducible refine (spec_l03Reg.calls k2 (rdOf ByteArray.empty t134 x11_2) t152 _ A83.out).mono ?_); rintro e w' ⟨rfl, ⟨nd, rfl⟩⟩; (try first | exact ⟨rfl, _, World.drewN_drewN _ _ _⟩ | exact ⟨rfl, _, Eq.trans (World.drewN_drewN _ _ _) (congrArg (World.drewN _) (Nat.add_assoc _ _ _))⟩)))
                            go_meet
                            case rel => exact ⟨_, (decide (t152 < 0)), (by first | rfl | (simp; done) | (simp [*]; done)), H', ⟨by have := HJ8.out; have := HK2.out; first | omega | exact Nat.le_refl _⟩, ⟨by (with_reducible repeat (first | apply Kd.R_alloc | apply Kd.R_drewN | apply Kd.R_drew)); exact HO_4.out⟩, ⟨by (with_reducible repeat (first | refine blk_drewN ?_ _ | refine blk_drew ?_ | refine blk_alloc ?_ _)); exact BK132.out⟩, ⟨by (with_reducible repeat (first | refine blk_drewN ?_ _ | refine blk_drew ?_ | refine blk_alloc ?_ _)); exact BK133.out⟩, ⟨by (with_reducible repeat (first | refine blk_drewN ?_ _ | refine blk_drew ?_ | refine blk_alloc ?_ _)); exact BK150.out⟩, ⟨by repeat (first | (with_reducible first | exact HB.out | apply below_alloc | apply pw_below_drewN | apply below_drew1 | refine below_set ?_ GE132.out | refine below_set ?_ GE133.out | refine below_set ?_ GE150.out) | exact HB.out)⟩⟩
                          · rw [if_neg c82] at H
                            exact absurd H (by simp)
                        · rw [if_neg c81] at H
                          exact absurd H (by simp)
                     case rest =>
                      clear HC79
                      try clear c1
                      try clear p1
                      try clear q1
                      try clear hx1
                      try clear qi1
                      try clear c2
                      try clear c2b0
                      try clear c2b1
                      try clear p2
                      try clear q2
                      try clear hx2
                      try clear c3
                      try clear c4
                      try clear c5
                      try clear c6
                      try clear p6
                      try clear c7
                      try clear c8
                      try clear c12
                      try clear p13
                      try clear q13
                      try clear hx13
                      try clear qi13
                      try clear p14
                      try clear q14
                      try clear hx14
                      try clear qi14
                      try clear c15
                      try clear c15b0
                      try clear c15b1
                      try clear p15
                      try clear q15
                      try clear hx15
                      try clear c16
                      try clear c16b0
                      try clear c16b1
                      try clear c17
                      try clear c17b0
                      try clear c17b1
                      try clear c19
                      try clear c19b0
                      try clear c20
                      try clear c20b0
                      try clear p21
                      try clear q21
                      try clear hx21
                      try clear c25
                      try clear c26
                      try clear c26b0
                      try clear c26b1
                      try clear c28
                      try clear c28b0
                      try clear c28b1
                      try clear c29
                      try clear c29b0
                      try clear c29b1
                      try clear c31
                      try clear c33
                      try clear c36
                      try clear c39
                      try clear c39b0
                      try clear c39b1
                      try clear c40
                      try clear c40b0
                      try clear c40b1
                      try clear c41
                      try clear c41b0
                      try clear c41b1
                      try clear c42
                      try clear c42b0
                      try clear c42b1
                      try clear c44
                      try clear c45
                      try clear c45b0
                      try clear c47
                      try clear c51
                      try clear c54
                      try clear c58
                      try clear c62
                      try clear c62b0
                      try clear p64
                      try clear c65
                      try clear c73
                      try clear c74
                      try clear c76
                      try clear c76b0
                      try clear c77
                      try clear c77b0
                      try clear c77b1
                      try clear c78
                      try clear c78b0
                      try clear c78b1
                      try clear c80
                      try clear c80b0
                      try clear c81
                      try clear c81b0
                      try clear c82
                      try clear c82b0
                      try clear hx137_0
                      try clear hx138_0
                      try clear hx139_0
                      try clear hx140_0
                      try clear hx141_0
                      try clear hx143_0
                      try clear hx144_0
                      try clear hx147_0
                      try clear hx151_0
                      try clear p1
                      try clear p13
                      try clear p137
                      try clear p138
                      try clear p139
                      try clear p14
                      try clear p140
                      try clear p141
                      try clear p143
                      try clear p144
                      try clear p147
                      try clear p151
                      try clear p2
                      try clear p21
                      try clear p6
                      try clear p64
                      try clear q1
                      try clear q13
                      try clear q137
                      try clear q138
                      try clear q139
                      try clear q14
                      try clear q140
                      try clear q141
                      try clear q143
                      try clear q144
                      try clear q147
                      try clear q151
                      try clear q2
                      try clear q21
                      obtain ⟨kq, x118_78, rfl, HA, HJ78, HO_4, BK132, BK133, BK150, HB⟩ := hcut
                      cases kq with
                      | zero => exact absurd HA.out (by simp [spec_ReadLine.j2])
                      | succ kj78 =>
                       have H := HA.out
                       clear HA
                       simp only [spec_ReadLine.j2] at H
                       by_cases c84 : x118_78 = true
                       · subst c84
                         have H1 : (some (0, 0, 0, 0, 0, 0, 0, (⟨#[]⟩ : ByteArray))) = some (r1, r2, r3, r4, r5, r6, r7, r8) := by rw [if_pos rfl] at H; exact H
                         clear H
                         have H := H1
                         clear H1
                         simp only [Option.some.injEq, Prod.mk.injEq] at H
                         obtain ⟨rfl, rfl, rfl, rfl, rfl, rfl, rfl, rfl⟩ := H
                         have hnb85 := NB133_132.out
                         have hnc85 := NB132_133.out
                         have hnb86 := NB133_150.out
                         have hnc86 := NB150_133.out
                         have hcz87_0 : wc.cell? ⟨gb133, 0, none⟩ = some (.int .i64 0) := (blk_cell BK133.out 0).trans rfl
                         have hcz87_1 : wc.cell? ⟨gb133, 1, none⟩ = some (.int .i64 0) := (blk_cell BK133.out 1).trans rfl
                         have hcz87_2 : wc.cell? ⟨gb133, 2, none⟩ = some (.int .i64 0) := (blk_cell BK133.out 2).trans rfl
                         have hcz87_3 : wc.cell? ⟨gb133, 3, none⟩ = some (.int .i64 0) := (blk_cell BK133.out 3).trans rfl
                         have hcz87_4 : wc.cell? ⟨gb133, 4, none⟩ = some (.int .i64 0) := (blk_cell BK133.out 4).trans rfl
                         have hcz87_5 : wc.cell? ⟨gb133, 5, none⟩ = some (.int .i64 0) := (blk_cell BK133.out 5).trans rfl
                         have hcz87_6 : wc.cell? ⟨gb133, 6, none⟩ = some (.int .u32 0) := (blk_cell BK133.out 6).trans rfl
                         have hcz87_7 : wc.cell? ⟨gb133, 7, none⟩ = some (.string (⟨#[]⟩ : ByteArray)) := (blk_cell BK133.out 7).trans rfl
                         have hfz87_0 := blk_frozen BK133.out 0
                         have hfz87_1 := blk_frozen BK133.out 1
                         have hfz87_2 := blk_frozen BK133.out 2
                         have hfz87_3 := blk_frozen BK133.out 3
                         have hfz87_4 := blk_frozen BK133.out 4
                         have hfz87_5 := blk_frozen BK133.out 5
                         have hfz87_6 := blk_frozen BK133.out 6
                         have hfz87_7 := blk_frozen BK133.out 7
                         have hnb88 := NB132_150.out
                         have hnc88 := NB150_132.out
                         have hcz89_0 : wc.cell? ⟨gb132, 0, none⟩ = some (.int .i64 x133000_2) := (blk_cell BK132.out 0).trans rfl
                         have hcz89_1 : wc.cell? ⟨gb132, 1, none⟩ = some (.int .i64 x133001_2) := (blk_cell BK132.out 1).trans rfl
                         have hcz89_2 : wc.cell? ⟨gb132, 2, none⟩ = some (.int .i64 x133002_2) := (blk_cell BK132.out 2).trans rfl
                         have hcz89_3 : wc.cell? ⟨gb132, 3, none⟩ = some (.int .i64 x133003_2) := (blk_cell BK132.out 3).trans rfl
                         have hcz89_4 : wc.cell? ⟨gb132, 4, none⟩ = some (.int .i64 x133004_2) := (blk_cell BK132.out 4).trans rfl
                         have hcz89_5 : wc.cell? ⟨gb132, 5, none⟩ = some (.int .i64 x133005_2) := (blk_cell BK132.out 5).trans rfl
                         have hcz89_6 : wc.cell? ⟨gb132, 6, none⟩ = some (.int .u32 x133006_2) := (blk_cell BK132.out 6).trans rfl
                         have hcz89_7 : wc.cell? ⟨gb132, 7, none⟩ = some (.string x133007_2) := (blk_cell BK132.out 7).trans rfl
                         have hfz89_0 := blk_frozen BK132.out 0
                         have hfz89_1 := blk_frozen BK132.out 1
                         have hfz89_2 := blk_frozen BK132.out 2
                         have hfz89_3 := blk_frozen BK132.out 3
                         have hfz89_4 := blk_frozen BK132.out 4
                         have hfz89_5 := blk_frozen BK132.out 5
                         have hfz89_6 := blk_frozen BK132.out 6
                         have hfz89_7 := blk_frozen BK132.out 7
                         go_wp2
                         repeat (go_quiet (fail); try go_wp2)
                         refine bodyPost_ret (results_cell_row rfl _ _ gb132 33 #[.int .i64 0, .int .i64 0, .int .i64 0, .int .i64 0, .int .i64 0, .int .i64 0, .int .u32 0, .string (⟨#[]⟩ : ByteArray)] (0, 0) _ rfl (by (with_reducible repeat (first | refine blk_drewN ?_ _ | refine blk_drew ?_ | refine blk_alloc ?_ _)); refine blk_put (cs := #[.int .i64 0, .int .i64 0, .int .i64 0, .int .i64 0, .int .i64 0, .int .i64 0, .int .u32 0, .string x133007_2]) ?_ 7 _ rfl; refine blk_put (cs := #[.int .i64 0, .int .i64 0, .int .i64 0, .int .i64 0, .int .i64 0, .int .i64 0, .int .u32 x133006_2, .string x133007_2]) ?_ 6 _ rfl; refine blk_put (cs := #[.int .i64 0, .int .i64 0, .int .i64 0, .int .i64 0, .int .i64 0, .int .i64 x133005_2, .int .u32 x133006_2, .string x133007_2]) ?_ 5 _ rfl; refine blk_put (cs := #[.int .i64 0, .int .i64 0, .int .i64 0, .int .i64 0, .int .i64 x133004_2, .int .i64 x133005_2, .int .u32 x133006_2, .string x133007_2]) ?_ 4 _ rfl; refine blk_put (cs := #[.int .i64 0, .int .i64 0, .int .i64 0, .int .i64 x133003_2, .int .i64 x133004_2, .int .i64 x133005_2, .int .u32 x133006_2, .string x133007_2]) ?_ 3 _ rfl; refine blk_put (cs := #[.int .i64 0, .int .i64 0, .int .i64 x133002_2, .int .i64 x133003_2, .int .i64 x133004_2, .int .i64 x133005_2, .int .u32 x133006_2, .string x133007_2]) ?_ 2 _ rfl; refine blk_put (cs := #[.int .i64 0, .int .i64 x133001_2, .int .i64 x133002_2, .int .i64 x133003_2, .int .i64 x133004_2, .int .i64 x133005_2, .int .u32 x133006_2, .string x133007_2]) ?_ 1 _ rfl; refine blk_put (cs := #[.int .i64 x133000_2, .int .i64 x133001_2, .int .i64 x133002_2, .int .i64 x133003_2, .int .i64 x133004_2, .int .i64 x133005_2, .int .u32 x133006_2, .string x133007_2]) ?_ 0 _ rfl; (with_reducible repeat (first | refine blk_drewN ?_ _ | refine blk_drew ?_ | refine blk_alloc ?_ _)); exact BK132.out) Tryd.underlying33 rfl (by kernel_rfl)) rfl ?_
                         exact ⟨by first | rfl | (simp [errW_none, errW_some] <;> rfl) | (simp [*, errW_none, errW_some] <;> rfl), by repeat (first | (with_reducible first | exact HB.out | apply below_alloc | apply pw_below_drewN | apply below_drew1 | refine below_set ?_ GE132.out | refine below_set ?_ GE133.out | refine below_set ?_ GE150.out) | exact HB.out)⟩
                       · replace c84 := Bool.eq_false_iff.mpr c84
                         subst c84
                         have H1 : (if 0 ≤ x11_2 then (if x11_2 < (t134.length : Int) then ((spec_l03Reg.f kj78 (rdOf ByteArray.empty t134 x11_2)).bind fun t154 => (if x12_2 = 1 then (spec_ReadLine.l0 kj78 t134 t148 t149 (wrap64 (x11_2 + 1)) (wrap64 (2 * x12_2)) 0 0 0 0 0 0 0 (⟨#[]⟩ : ByteArray) 3 t148 t154 x151003_2 x151004_2 0 0 (⟨#[]⟩ : ByteArray)) else (if x12_2 = 2 then (spec_ReadLine.l0 kj78 t134 t148 t149 (wrap64 (x11_2 + 1)) (wrap64 (2 * x12_2)) 0 0 0 0 0 0 0 (⟨#[]⟩ : ByteArray) 3 t148 x151002_2 t154 x151004_2 0 0 (⟨#[]⟩ : ByteArray)) else (spec_ReadLine.l0 kj78 t134 t148 t149 (wrap64 (x11_2 + 1)) (wrap64 (2 * x12_2)) 0 0 0 0 0 0 0 (⟨#[]⟩ : ByteArray) 3 t148 x151002_2 x151003_2 t154 0 0 (⟨#[]⟩ : ByteArray))))) else (none)) else (none)) = some (r1, r2, r3, r4, r5, r6, r7, r8) := by rw [if_neg (show ¬ (false = true) by decide)] at H; exact H
                         clear H
                         have H := H1
                         clear H1
                         by_cases c90 : 0 ≤ x11_2
                         · rw [if_pos c90] at H
                           have c90b0 : decide (0 ≤ x11_2) = true := decide_eq_true c90
                           clear c90
                           by_cases c91 : x11_2 < (t134.length : Int)
                           · rw [if_pos c91] at H
                             have c91b0 : decide (x11_2 < (t134.length : Int)) = true := decide_eq_true c91
                             clear c91
                             replace H := Option.bind_eq_some_iff.mp H
                             obtain ⟨t154, A920, H⟩ := H
                             replace H : (if x12_2 = 1 then (spec_ReadLine.l0 kj78 t134 t148 t149 (wrap64 (x11_2 + 1)) (wrap64 (2 * x12_2)) 0 0 0 0 0 0 0 (⟨#[]⟩ : ByteArray) 3 t148 t154 x151003_2 x151004_2 0 0 (⟨#[]⟩ : ByteArray)) else (if x12_2 = 2 then (spec_ReadLine.l0 kj78 t134 t148 t149 (wrap64 (x11_2 + 1)) (wrap64 (2 * x12_2)) 0 0 0 0 0 0 0 (⟨#[]⟩ : ByteArray) 3 t148 x151002_2 t154 x151004_2 0 0 (⟨#[]⟩ : ByteArray)) else (spec_ReadLine.l0 kj78 t134 t148 t149 (wrap64 (x11_2 + 1)) (wrap64 (2 * x12_2)) 0 0 0 0 0 0 0 (⟨#[]⟩ : ByteArray) 3 t148 x151002_2 x151003_2 t154 0 0 (⟨#[]⟩ : ByteArray)))) = some (r1, r2, r3, r4, r5, r6, r7, r8) := H
                             have A92 := Aside0.mk A920
                             clear A920
                             by_cases c93 : x12_2 = 1
                             · rw [if_pos c93] at H
                               have c93b0 : (x12_2 == 1) = true := beq_iff_eq.mpr c93
                               have c93b1 : (x12_2 != 1) = false := bne_eq_false_iff_eq.mpr c93
                               clear c93
                               have H' := Aside0.mk H
                               clear H
                               have p153 : 0 ≤ (x11_2 : Int) := of_decide_eq_true (by first | (with_reducible assumption) | assumption)
                               have q153 : x11_2 < (t134.length : Int) := of_decide_eq_true (by first | (with_reducible assumption) | assumption)
                               obtain ⟨ad153, e153, hx153_0⟩ := Kd.at_string (Kd.R_reads' HO_4.out).2.2 x11_2 p153 q153
                               obtain rfl : ad143 = ad153 := (by injection e153)
                               replace p153 := eq_true p153
                               replace q153 := eq_true q153
                               go_wp2_with (first | (go_at_call 41; (with_reducible refine (spec_l03Reg.calls kj78 (rdOf ByteArray.empty t134 x11_2) t154 _ A92.out).mono ?_); rintro e w' ⟨rfl, ⟨nd, rfl⟩⟩; (try first | exact ⟨rfl, _, World.drewN_drewN _ _ _⟩ | exact ⟨rfl, _, Eq.trans (World.drewN_drewN _ _ _) (congrArg (World.drewN _) (Nat.add_assoc _ _ _))⟩); have hnb94 := NB150_132.out; have hnc94 := NB132_150.out; have hnb95 := NB150_133.out; have hnc95 := NB133_150.out; have hcz96_0 : wc.cell? ⟨gb150, 0, none⟩ = some (.int .i64 3) := (blk_cell BK150.out 0).trans rfl; have hcz96_1 : wc.cell? ⟨gb150, 1, none⟩ = some (.int .i64 t148) := (blk_cell BK150.out 1).trans rfl; have hcz96_2 : wc.cell? ⟨gb150, 2, none⟩ = some (.int .i64 x151002_2) := (blk_cell BK150.out 2).trans rfl; have hcz96_3 : wc.cell? ⟨gb150, 3, none⟩ = some (.int .i64 x151003_2) := (blk_cell BK150.out 3).trans rfl; have hcz96_4 : wc.cell? ⟨gb150, 4, none⟩ = some (.int .i64 x151004_2) := (blk_cell BK150.out 4).trans rfl; have hcz96_5 : wc.cell? ⟨gb150, 5, none⟩ = some (.int .i64 0) := (blk_cell BK150.out 5).trans rfl; have hcz96_6 : wc.cell? ⟨gb150, 6, none⟩ = some (.int .u32 0) := (blk_cell BK150.out 6).trans rfl; have hcz96_7 : wc.cell? ⟨gb150, 7, none⟩ = some (.string (⟨#[]⟩ : ByteArray)) := (blk_cell BK150.out 7).trans rfl; have hfz96_0 := blk_frozen BK150.out 0; have hfz96_1 := blk_frozen BK150.out 1; have hfz96_2 := blk_frozen BK150.out 2; have hfz96_3 := blk_frozen BK150.out 3; have hfz96_4 := blk_frozen BK150.out 4; have hfz96_5 := blk_frozen BK150.out 5; have hfz96_6 := blk_frozen BK150.out 6; have hfz96_7 := blk_frozen BK150.out 7))
                               go_roundg kj78
                               case measure => have := HJ8.out; have := HK2.out; have := HJ78.out; omega
                               case rel => exact ⟨(wrap64 (x11_2 + 1)), (wrap64 (2 * x12_2)), (x133000_2), (x133001_2), (x133002_2), (x133003_2), (x133004_2), (x133005_2), (x133006_2), (x133007_2), (t154), (x151003_2), (x151004_2), (by first | rfl | (simp; done) | (simp [*]; done)), (by first | rfl | (simp; done) | (simp [*]; done)), H', ⟨by have := HJ8.out; have := HK2.out; have := HJ78.out; omega⟩, ⟨by (with_reducible repeat (first | apply Kd.R_alloc | apply Kd.R_drewN | apply Kd.R_drew)); exact Kd.R_mono (Kd.R_far (p := ⟨gb150, 2, none⟩) (Kd.R_types HO_4.out BK150.out (by decide)) (fun _ hk => hk.2) (.int .i64 t154)) (fun _ hk => trivial)⟩, ⟨by (with_reducible repeat (first | refine blk_drewN ?_ _ | refine blk_drew ?_ | refine blk_alloc ?_ _)); refine blk_far ?_ NB132_150.out _; (with_reducible repeat (first | refine blk_drewN ?_ _ | refine blk_drew ?_ | refine blk_alloc ?_ _)); exact BK132.out⟩, ⟨by (with_reducible repeat (first | refine blk_drewN ?_ _ | refine blk_drew ?_ | refine blk_alloc ?_ _)); refine blk_far ?_ NB133_150.out _; (with_reducible repeat (first | refine blk_drewN ?_ _ | refine blk_drew ?_ | refine blk_alloc ?_ _)); exact BK133.out⟩, ⟨by (with_reducible repeat (first | refine blk_drewN ?_ _ | refine blk_drew ?_ | refine blk_alloc ?_ _)); refine blk_put (cs := #[.int .i64 3, .int .i64 t148, .int .i64 x151002_2, .int .i64 x151003_2, .int .i64 x151004_2, .int .i64 0, .int .u32 0, .string (⟨#[]⟩ : ByteArray)]) ?_ 2 _ rfl; (with_reducible repeat (first | refine blk_drewN ?_ _ | refine blk_drew ?_ | refine blk_alloc ?_ _)); exact BK150.out⟩, ⟨by repeat (first | (with_reducible first | exact HB.out | apply below_alloc | apply pw_below_drewN | apply below_drew1 | refine below_set ?_ GE132.out | refine below_set ?_ GE133.out | refine below_set ?_ GE150.out) | exact HB.out)⟩⟩
                             · rw [if_neg c93] at H
                               have c93b0 : (x12_2 == 1) = false := beq_eq_false_iff_ne.mpr c93
                               have c93b1 : (x12_2 != 1) = true := bne_iff_ne.mpr c93
                               by_cases c97 : x12_2 = 2
                               · rw [if_pos c97] at H
                                 have c97b0 : (x12_2 == 2) = true := beq_iff_eq.mpr c97
                                 have c97b1 : (x12_2 != 2) = false := bne_eq_false_iff_eq.mpr c97
                                 clear c97
                                 have H' := Aside0.mk H
                                 clear H
                                 have p153 : 0 ≤ (x11_2 : Int) := of_decide_eq_true (by first | (with_reducible assumption) | assumption)
                                 have q153 : x11_2 < (t134.length : Int) := of_decide_eq_true (by first | (with_reducible assumption) | assumption)
                                 obtain ⟨ad153, e153, hx153_0⟩ := Kd.at_string (Kd.R_reads' HO_4.out).2.2 x11_2 p153 q153
                                 obtain rfl : ad143 = ad153 := (by injection e153)
                                 replace p153 := eq_true p153
                                 replace q153 := eq_true q153
                                 go_wp2_with (first | (go_at_call 41; (with_reducible refine (spec_l03Reg.calls kj78 (rdOf ByteArray.empty t134 x11_2) t154 _ A92.out).mono ?_); rintro e w' ⟨rfl, ⟨nd, rfl⟩⟩; (try first | exact ⟨rfl, _, World.drewN_drewN _ _ _⟩ | exact ⟨rfl, _, Eq.trans (World.drewN_drewN _ _ _) (congrArg (World.drewN _) (Nat.add_assoc _ _ _))⟩); have hnb98 := NB150_132.out; have hnc98 := NB132_150.out; have hnb99 := NB150_133.out; have hnc99 := NB133_150.out; have hcz100_0 : wc.cell? ⟨gb150, 0, none⟩ = some (.int .i64 3) := (blk_cell BK150.out 0).trans rfl; have hcz100_1 : wc.cell? ⟨gb150, 1, none⟩ = some (.int .i64 t148) := (blk_cell BK150.out 1).trans rfl; have hcz100_2 : wc.cell? ⟨gb150, 2, none⟩ = some (.int .i64 x151002_2) := (blk_cell BK150.out 2).trans rfl; have hcz100_3 : wc.cell? ⟨gb150, 3, none⟩ = some (.int .i64 x151003_2) := (blk_cell BK150.out 3).trans rfl; have hcz100_4 : wc.cell? ⟨gb150, 4, none⟩ = some (.int .i64 x151004_2) := (blk_cell BK150.out 4).trans rfl; have hcz100_5 : wc.cell? ⟨gb150, 5, none⟩ = some (.int .i64 0) := (blk_cell BK150.out 5).trans rfl; have hcz100_6 : wc.cell? ⟨gb150, 6, none⟩ = some (.int .u32 0) := (blk_cell BK150.out 6).trans rfl; have hcz100_7 : wc.cell? ⟨gb150, 7, none⟩ = some (.string (⟨#[]⟩ : ByteArray)) := (blk_cell BK150.out 7).trans rfl; have hfz100_0 := blk_frozen BK150.out 0; have hfz100_1 := blk_frozen BK150.out 1; have hfz100_2 := blk_frozen BK150.out 2; have hfz100_3 := blk_frozen BK150.out 3; have hfz100_4 := blk_frozen BK150.out 4; have hfz100_5 := blk_frozen BK150.out 5; have hfz100_6 := blk_frozen BK150.out 6; have hfz100_7 := blk_frozen BK150.out 7))
                                 go_roundg kj78
                                 case measure => have := HJ8.out; have := HK2.out; have := HJ78.out; omega
                                 case rel => exact ⟨(wrap64 (x11_2 + 1)), (wrap64 (2 * x12_2)), (x133000_2), (x133001_2), (x133002_2), (x133003_2), (x133004_2), (x133005_2), (x133006_2), (x133007_2), (x151002_2), (t154), (x151004_2), (by first | rfl | (simp; done) | (simp [*]; done)), (by first | rfl | (simp; done) | (simp [*]; done)), H', ⟨by have := HJ8.out; have := HK2.out; have := HJ78.out; omega⟩, ⟨by (with_reducible repeat (first | apply Kd.R_alloc | apply Kd.R_drewN | apply Kd.R_drew)); exact Kd.R_mono (Kd.R_far (p := ⟨gb150, 3, none⟩) (Kd.R_types HO_4.out BK150.out (by decide)) (fun _ hk => hk.2) (.int .i64 t154)) (fun _ hk => trivial)⟩, ⟨by (with_reducible repeat (first | refine blk_drewN ?_ _ | refine blk_drew ?_ | refine blk_alloc ?_ _)); refine blk_far ?_ NB132_150.out _; (with_reducible repeat (first | refine blk_drewN ?_ _ | refine blk_drew ?_ | refine blk_alloc ?_ _)); exact BK132.out⟩, ⟨by (with_reducible repeat (first | refine blk_drewN ?_ _ | refine blk_drew ?_ | refine blk_alloc ?_ _)); refine blk_far ?_ NB133_150.out _; (with_reducible repeat (first | refine blk_drewN ?_ _ | refine blk_drew ?_ | refine blk_alloc ?_ _)); exact BK133.out⟩, ⟨by (with_reducible repeat (first | refine blk_drewN ?_ _ | refine blk_drew ?_ | refine blk_alloc ?_ _)); refine blk_put (cs := #[.int .i64 3, .int .i64 t148, .int .i64 x151002_2, .int .i64 x151003_2, .int .i64 x151004_2, .int .i64 0, .int .u32 0, .string (⟨#[]⟩ : ByteArray)]) ?_ 3 _ rfl; (with_reducible repeat (first | refine blk_drewN ?_ _ | refine blk_drew ?_ | refine blk_alloc ?_ _)); exact BK150.out⟩, ⟨by repeat (first | (with_reducible first | exact HB.out | apply below_alloc | apply pw_below_drewN | apply below_drew1 | refine below_set ?_ GE132.out | refine below_set ?_ GE133.out | refine below_set ?_ GE150.out) | exact HB.out)⟩⟩
                               · rw [if_neg c97] at H
                                 have c97b0 : (x12_2 == 2) = false := beq_eq_false_iff_ne.mpr c97
                                 have c97b1 : (x12_2 != 2) = true := bne_iff_ne.mpr c97
                                 have H' := Aside0.mk H
                                 clear H
                                 have p153 : 0 ≤ (x11_2 : Int) := of_decide_eq_true (by first | (with_reducible assumption) | assumption)
                                 have q153 : x11_2 < (t134.length : Int) := of_decide_eq_true (by first | (with_reducible assumption) | assumption)
                                 obtain ⟨ad153, e153, hx153_0⟩ := Kd.at_string (Kd.R_reads' HO_4.out).2.2 x11_2 p153 q153
                                 obtain rfl : ad143 = ad153 := (by injection e153)
                                 replace p153 := eq_true p153
                                 replace q153 := eq_true q153
                                 go_wp2_with (first | (go_at_call 41; (with_reducible refine (spec_l03Reg.calls kj78 (rdOf ByteArray.empty t134 x11_2) t154 _ A92.out).mono ?_); rintro e w' ⟨rfl, ⟨nd, rfl⟩⟩; (try first | exact ⟨rfl, _, World.drewN_drewN _ _ _⟩ | exact ⟨rfl, _, Eq.trans (World.drewN_drewN _ _ _) (congrArg (World.drewN _) (Nat.add_assoc _ _ _))⟩); have hnb101 := NB150_132.out; have hnc101 := NB132_150.out; have hnb102 := NB150_133.out; have hnc102 := NB133_150.out; have hcz103_0 : wc.cell? ⟨gb150, 0, none⟩ = some (.int .i64 3) := (blk_cell BK150.out 0).trans rfl; have hcz103_1 : wc.cell? ⟨gb150, 1, none⟩ = some (.int .i64 t148) := (blk_cell BK150.out 1).trans rfl; have hcz103_2 : wc.cell? ⟨gb150, 2, none⟩ = some (.int .i64 x151002_2) := (blk_cell BK150.out 2).trans rfl; have hcz103_3 : wc.cell? ⟨gb150, 3, none⟩ = some (.int .i64 x151003_2) := (blk_cell BK150.out 3).trans rfl; have hcz103_4 : wc.cell? ⟨gb150, 4, none⟩ = some (.int .i64 x151004_2) := (blk_cell BK150.out 4).trans rfl; have hcz103_5 : wc.cell? ⟨gb150, 5, none⟩ = some (.int .i64 0) := (blk_cell BK150.out 5).trans rfl; have hcz103_6 : wc.cell? ⟨gb150, 6, none⟩ = some (.int .u32 0) := (blk_cell BK150.out 6).trans rfl; have hcz103_7 : wc.cell? ⟨gb150, 7, none⟩ = some (.string (⟨#[]⟩ : ByteArray)) := (blk_cell BK150.out 7).trans rfl; have hfz103_0 := blk_frozen BK150.out 0; have hfz103_1 := blk_frozen BK150.out 1; have hfz103_2 := blk_frozen BK150.out 2; have hfz103_3 := blk_frozen BK150.out 3; have hfz103_4 := blk_frozen BK150.out 4; have hfz103_5 := blk_frozen BK150.out 5; have hfz103_6 := blk_frozen BK150.out 6; have hfz103_7 := blk_frozen BK150.out 7))
                                 go_roundg kj78
                                 case measure => have := HJ8.out; have := HK2.out; have := HJ78.out; omega
                                 case rel => exact ⟨(wrap64 (x11_2 + 1)), (wrap64 (2 * x12_2)), (x133000_2), (x133001_2), (x133002_2), (x133003_2), (x133004_2), (x133005_2), (x133006_2), (x133007_2), (x151002_2), (x151003_2), (t154), (by first | rfl | (simp; done) | (simp [*]; done)), (by first | rfl | (simp; done) | (simp [*]; done)), H', ⟨by have := HJ8.out; have := HK2.out; have := HJ78.out; omega⟩, ⟨by (with_reducible repeat (first | apply Kd.R_alloc | apply Kd.R_drewN | apply Kd.R_drew)); exact Kd.R_mono (Kd.R_far (p := ⟨gb150, 4, none⟩) (Kd.R_types HO_4.out BK150.out (by decide)) (fun _ hk => hk.2) (.int .i64 t154)) (fun _ hk => trivial)⟩, ⟨by (with_reducible repeat (first | refine blk_drewN ?_ _ | refine blk_drew ?_ | refine blk_alloc ?_ _)); refine blk_far ?_ NB132_150.out _; (with_reducible repeat (first | refine blk_drewN ?_ _ | refine blk_drew ?_ | refine blk_alloc ?_ _)); exact BK132.out⟩, ⟨by (with_reducible repeat (first | refine blk_drewN ?_ _ | refine blk_drew ?_ | refine blk_alloc ?_ _)); refine blk_far ?_ NB133_150.out _; (with_reducible repeat (first | refine blk_drewN ?_ _ | refine blk_drew ?_ | refine blk_alloc ?_ _)); exact BK133.out⟩, ⟨by (with_reducible repeat (first | refine blk_drewN ?_ _ | refine blk_drew ?_ | refine blk_alloc ?_ _)); refine blk_put (cs := #[.int .i64 3, .int .i64 t148, .int .i64 x151002_2, .int .i64 x151003_2, .int .i64 x151004_2, .int .i64 0, .int .u32 0, .string (⟨#[]⟩ : ByteArray)]) ?_ 4 _ rfl; (with_reducible repeat (first | refine blk_drewN ?_ _ | refine blk_drew ?_ | refine blk_alloc ?_ _)); exact BK150.out⟩, ⟨by repeat (first | (with_reducible first | exact HB.out | apply below_alloc | apply pw_below_drewN | apply below_drew1 | refine below_set ?_ GE132.out | refine below_set ?_ GE133.out | refine below_set ?_ GE150.out) | exact HB.out)⟩⟩
                           · rw [if_neg c91] at H
                             exact absurd H (by simp)
                         · rw [if_neg c90] at H
                           exact absurd H (by simp)
                   · rw [if_neg c78] at H
                     have c78b0 : ((Int.tmod (wrap64 (Int.tdiv t149 x12_2)) 2) == 1) = false := beq_eq_false_iff_ne.mpr c78
                     have c78b1 : ((Int.tmod (wrap64 (Int.tdiv t149 x12_2)) 2) != 1) = true := bne_iff_ne.mpr c78
                     have H' := Aside0.mk H
                     clear H
                     go_wp2
                     repeat (go_quiet (fail); try go_wp2)
                     go_roundg k2
                     case measure => have := HJ8.out; have := HK2.out; omega
                     case rel => exact ⟨(x11_2), (wrap64 (2 * x12_2)), (x133000_2), (x133001_2), (x133002_2), (x133003_2), (x133004_2), (x133005_2), (x133006_2), (x133007_2), (x151002_2), (x151003_2), (x151004_2), (by first | rfl | (simp; done) | (simp [*]; done)), (by first | rfl | (simp; done) | (simp [*]; done)), H', ⟨by have := HJ8.out; have := HK2.out; omega⟩, ⟨by (with_reducible repeat (first | apply Kd.R_alloc | apply Kd.R_drewN | apply Kd.R_drew)); exact HO_4.out⟩, ⟨by (with_reducible repeat (first | refine blk_drewN ?_ _ | refine blk_drew ?_ | refine blk_alloc ?_ _)); exact BK132.out⟩, ⟨by (with_reducible repeat (first | refine blk_drewN ?_ _ | refine blk_drew ?_ | refine blk_alloc ?_ _)); exact BK133.out⟩, ⟨by (with_reducible repeat (first | refine blk_drewN ?_ _ | refine blk_drew ?_ | refine blk_alloc ?_ _)); exact BK150.out⟩, ⟨by repeat (first | (with_reducible first | exact HB.out | apply below_alloc | apply pw_below_drewN | apply below_drew1 | refine below_set ?_ GE132.out | refine below_set ?_ GE133.out | refine below_set ?_ GE150.out) | exact HB.out)⟩⟩
               · rw [if_neg c76] at H
                 have c76b0 : decide (x12_2 ≤ 4) = false := decide_eq_false c76
                 clear c76
                 by_cases c104 : (Int.tmod (wrap64 (Int.tdiv t149 8)) 2) = 1
                 · rw [if_pos c104] at H
                   have c104b0 : ((Int.tmod (wrap64 (Int.tdiv t149 8)) 2) == 1) = true := beq_iff_eq.mpr c104
                   have c104b1 : ((Int.tmod (wrap64 (Int.tdiv t149 8)) 2) != 1) = false := bne_eq_false_iff_eq.mpr c104
                   clear c104
                   by_cases c105 : x11_2 ≥ (t134.length : Int)
                   · rw [if_pos c105] at H
                     have c105b0 : decide ((t134.length : Int) ≤ x11_2) = true := decide_eq_true c105
                     clear c105
                     simp only [Option.some.injEq, Prod.mk.injEq] at H
                     obtain ⟨rfl, rfl, rfl, rfl, rfl, rfl, rfl, rfl⟩ := H
                     have hnb106 := NB133_132.out
                     have hnc106 := NB132_133.out
                     have hnb107 := NB133_150.out
                     have hnc107 := NB150_133.out
                     have hcz108_0 : wr.cell? ⟨gb133, 0, none⟩ = some (.int .i64 0) := (blk_cell BK133.out 0).trans rfl
                     have hcz108_1 : wr.cell? ⟨gb133, 1, none⟩ = some (.int .i64 0) := (blk_cell BK133.out 1).trans rfl
                     have hcz108_2 : wr.cell? ⟨gb133, 2, none⟩ = some (.int .i64 0) := (blk_cell BK133.out 2).trans rfl
                     have hcz108_3 : wr.cell? ⟨gb133, 3, none⟩ = some (.int .i64 0) := (blk_cell BK133.out 3).trans rfl
                     have hcz108_4 : wr.cell? ⟨gb133, 4, none⟩ = some (.int .i64 0) := (blk_cell BK133.out 4).trans rfl
                     have hcz108_5 : wr.cell? ⟨gb133, 5, none⟩ = some (.int .i64 0) := (blk_cell BK133.out 5).trans rfl
                     have hcz108_6 : wr.cell? ⟨gb133, 6, none⟩ = some (.int .u32 0) := (blk_cell BK133.out 6).trans rfl
                     have hcz108_7 : wr.cell? ⟨gb133, 7, none⟩ = some (.string (⟨#[]⟩ : ByteArray)) := (blk_cell BK133.out 7).trans rfl
                     have hfz108_0 := blk_frozen BK133.out 0
                     have hfz108_1 := blk_frozen BK133.out 1
                     have hfz108_2 := blk_frozen BK133.out 2
                     have hfz108_3 := blk_frozen BK133.out 3
                     have hfz108_4 := blk_frozen BK133.out 4
                     have hfz108_5 := blk_frozen BK133.out 5
                     have hfz108_6 := blk_frozen BK133.out 6
                     have hfz108_7 := blk_frozen BK133.out 7
                     have hnb109 := NB132_150.out
                     have hnc109 := NB150_132.out
                     have hcz110_0 : wr.cell? ⟨gb132, 0, none⟩ = some (.int .i64 x133000_2) := (blk_cell BK132.out 0).trans rfl
                     have hcz110_1 : wr.cell? ⟨gb132, 1, none⟩ = some (.int .i64 x133001_2) := (blk_cell BK132.out 1).trans rfl
                     have hcz110_2 : wr.cell? ⟨gb132, 2, none⟩ = some (.int .i64 x133002_2) := (blk_cell BK132.out 2).trans rfl
                     have hcz110_3 : wr.cell? ⟨gb132, 3, none⟩ = some (.int .i64 x133003_2) := (blk_cell BK132.out 3).trans rfl
                     have hcz110_4 : wr.cell? ⟨gb132, 4, none⟩ = some (.int .i64 x133004_2) := (blk_cell BK132.out 4).trans rfl
                     have hcz110_5 : wr.cell? ⟨gb132, 5, none⟩ = some (.int .i64 x133005_2) := (blk_cell BK132.out 5).trans rfl
                     have hcz110_6 : wr.cell? ⟨gb132, 6, none⟩ = some (.int .u32 x133006_2) := (blk_cell BK132.out 6).trans rfl
                     have hcz110_7 : wr.cell? ⟨gb132, 7, none⟩ = some (.string x133007_2) := (blk_cell BK132.out 7).trans rfl
                     have hfz110_0 := blk_frozen BK132.out 0
                     have hfz110_1 := blk_frozen BK132.out 1
                     have hfz110_2 := blk_frozen BK132.out 2
                     have hfz110_3 := blk_frozen BK132.out 3
                     have hfz110_4 := blk_frozen BK132.out 4
                     have hfz110_5 := blk_frozen BK132.out 5
                     have hfz110_6 := blk_frozen BK132.out 6
                     have hfz110_7 := blk_frozen BK132.out 7
                     go_wp2
                     repeat (go_quiet (fail); try go_wp2)
                     refine bodyPost_ret (results_cell_row rfl _ _ gb132 33 #[.int .i64 0, .int .i64 0, .int .i64 0, .int .i64 0, .int .i64 0, .int .i64 0, .int .u32 0, .string (⟨#[]⟩ : ByteArray)] (0, 0) _ rfl (by (with_reducible repeat (first | refine blk_drewN ?_ _ | refine blk_drew ?_ | refine blk_alloc ?_ _)); refine blk_put (cs := #[.int .i64 0, .int .i64 0, .int .i64 0, .int .i64 0, .int .i64 0, .int .i64 0, .int .u32 0, .string x133007_2]) ?_ 7 _ rfl; refine blk_put (cs := #[.int .i64 0, .int .i64 0, .int .i64 0, .int .i64 0, .int .i64 0, .int .i64 0, .int .u32 x133006_2, .string x133007_2]) ?_ 6 _ rfl; refine blk_put (cs := #[.int .i64 0, .int .i64 0, .int .i64 0, .int .i64 0, .int .i64 0, .int .i64 x133005_2, .int .u32 x133006_2, .string x133007_2]) ?_ 5 _ rfl; refine blk_put (cs := #[.int .i64 0, .int .i64 0, .int .i64 0, .int .i64 0, .int .i64 x133004_2, .int .i64 x133005_2, .int .u32 x133006_2, .string x133007_2]) ?_ 4 _ rfl; refine blk_put (cs := #[.int .i64 0, .int .i64 0, .int .i64 0, .int .i64 x133003_2, .int .i64 x133004_2, .int .i64 x133005_2, .int .u32 x133006_2, .string x133007_2]) ?_ 3 _ rfl; refine blk_put (cs := #[.int .i64 0, .int .i64 0, .int .i64 x133002_2, .int .i64 x133003_2, .int .i64 x133004_2, .int .i64 x133005_2, .int .u32 x133006_2, .string x133007_2]) ?_ 2 _ rfl; refine blk_put (cs := #[.int .i64 0, .int .i64 x133001_2, .int .i64 x133002_2, .int .i64 x133003_2, .int .i64 x133004_2, .int .i64 x133005_2, .int .u32 x133006_2, .string x133007_2]) ?_ 1 _ rfl; refine blk_put (cs := #[.int .i64 x133000_2, .int .i64 x133001_2, .int .i64 x133002_2, .int .i64 x133003_2, .int .i64 x133004_2, .int .i64 x133005_2, .int .u32 x133006_2, .string x133007_2]) ?_ 0 _ rfl; (with_reducible repeat (first | refine blk_drewN ?_ _ | refine blk_drew ?_ | refine blk_alloc ?_ _)); exact BK132.out) Tryd.underlying33 rfl (by kernel_rfl)) rfl ?_
                     exact ⟨by first | rfl | (simp [errW_none, errW_some] <;> rfl) | (simp [*, errW_none, errW_some] <;> rfl), by repeat (first | (with_reducible first | exact HB.out | apply below_alloc | apply pw_below_drewN | apply below_drew1 | refine below_set ?_ GE132.out | refine below_set ?_ GE133.out | refine below_set ?_ GE150.out) | exact HB.out)⟩
                   · rw [if_neg c105] at H
                     have c105b0 : decide ((t134.length : Int) ≤ x11_2) = false := decide_eq_false c105
                     clear c105
                     by_cases c111 : 0 ≤ x11_2
                     · rw [if_pos c111] at H
                       have c111b0 : decide (0 ≤ x11_2) = true := decide_eq_true c111
                       clear c111
                       by_cases c112 : x11_2 < (t134.length : Int)
                       · rw [if_pos c112] at H
                         have c112b0 : decide (x11_2 < (t134.length : Int)) = true := decide_eq_true c112
                         clear c112
                         replace H := Option.bind_eq_some_iff.mp H
                         obtain ⟨⟨t156, t157⟩, A1130, H⟩ := H
                         replace H : (if t157 = true then (spec_ReadLine.j3 k2 t134 t148 x11_2 t156 (decide (t156 ≤ 8191)) 0 0 0 0 0 0 0 (⟨#[]⟩ : ByteArray) 3 t148 x151002_2 x151003_2 x151004_2 0 0 (⟨#[]⟩ : ByteArray)) else (spec_ReadLine.j3 k2 t134 t148 x11_2 t156 false 0 0 0 0 0 0 0 (⟨#[]⟩ : ByteArray) 3 t148 x151002_2 x151003_2 x151004_2 0 0 (⟨#[]⟩ : ByteArray))) = some (r1, r2, r3, r4, r5, r6, r7, r8) := H
                         have A113 := Aside0.mk A1130
                         clear A1130
                         have HC114 := Aside0.mk H
                         clear H
                         have p155 : 0 ≤ (x11_2 : Int) := of_decide_eq_true (by first | (with_reducible assumption) | assumption)
                         have q155 : x11_2 < (t134.length : Int) := of_decide_eq_true (by first | (with_reducible assumption) | assumption)
                         obtain ⟨ad155, e155, hx155_0⟩ := Kd.at_string (Kd.R_reads' HO_4.out).2.2 x11_2 p155 q155
                         obtain rfl : ad143 = ad155 := (by injection e155)
                         replace p155 := eq_true p155
                         replace q155 := eq_true q155
                         go_upto_region 42 with (first | (go_at_call 39; (with_reducible refine (spec_DecNum.calls k2 (rdOf ByteArray.empty t134 x11_2) 8192 t156 t157 _ A113.out).mono ?_); rintro e w' ⟨rfl, ⟨nd, rfl⟩⟩; (try first | exact ⟨rfl, _, World.drewN_drewN _ _ _⟩ | exact ⟨rfl, _, Eq.trans (World.drewN_drewN _ _ _) (congrArg (World.drewN _) (Nat.add_assoc _ _ _))⟩)))
                         (try simp only [Act.put, List.setIfInBounds_toArray, List.set_cons_zero, List.set_cons_succ])
                         go_cut [162] (fun v162 wc => ∃ (kq : Nat) (x162_113 : Bool), v162 = .bool x162_113 ∧ Aside0 (spec_ReadLine.j3 kq t134 t148 x11_2 t156 x162_113 0 0 0 0 0 0 0 (⟨#[]⟩ : ByteArray) 3 t148 x151002_2 x151003_2 x151004_2 0 0 (⟨#[]⟩ : ByteArray) = some (r1, r2, r3, r4, r5, r6, r7, r8)) ∧ Aside0 (kq ≤ k2) ∧ Aside0 (Kd.R Kd.string 9 wc w.heap.size (fun _ => True) (.slice (some ad143) t134.length co69) t134) ∧ Aside0 (wc.heap[gb132]? = some (.cells #[.int .i64 x133000_2, .int .i64 x133001_2, .int .i64 x133002_2, .int .i64 x133003_2, .int .i64 x133004_2, .int .i64 x133005_2, .int .u32 x133006_2, .string x133007_2] 33 (0, 0))) ∧ Aside0 (wc.heap[gb133]? = some (.cells #[.int .i64 0, .int .i64 0, .int .i64 0, .int .i64 0, .int .i64 0, .int .i64 0, .int .u32 0, .string (⟨#[]⟩ : ByteArray)] 33 (0, 0))) ∧ Aside0 (wc.heap[gb150]? = some (.cells #[.int .i64 3, .int .i64 t148, .int .i64 x151002_2, .int .i64 x151003_2, .int .i64 x151004_2, .int .i64 0, .int .u32 0, .string (⟨#[]⟩ : ByteArray)] 33 (0, 0))) ∧ Aside0 (Below w.heap.size w wc))
                         case first =>
                          have H := HC114.out
                          clear HC114
                          by_cases c115 : t157 = true
                          · subst c115
                            have H1 : (spec_ReadLine.j3 k2 t134 t148 x11_2 t156 (decide (t156 ≤ 8191)) 0 0 0 0 0 0 0 (⟨#[]⟩ : ByteArray) 3 t148 x151002_2 x151003_2 x151004_2 0 0 (⟨#[]⟩ : ByteArray)) = some (r1, r2, r3, r4, r5, r6, r7, r8) := by rw [if_pos rfl] at H; exact H
                            clear H
                            have H := H1
                            clear H1
                            have H' := Aside0.mk H
                            clear H
                            go_wp2
                            repeat (go_quiet (fail); try go_wp2)
                            go_meet
                            case rel => exact ⟨_, (decide (t156 ≤ 8191)), (by first | rfl | (simp; done) | (simp [*]; done)), H', ⟨by have := HJ8.out; have := HK2.out; first | omega | exact Nat.le_refl _⟩, ⟨by (with_reducible repeat (first | apply Kd.R_alloc | apply Kd.R_drewN | apply Kd.R_drew)); exact HO_4.out⟩, ⟨by (with_reducible repeat (first | refine blk_drewN ?_ _ | refine blk_drew ?_ | refine blk_alloc ?_ _)); exact BK132.out⟩, ⟨by (with_reducible repeat (first | refine blk_drewN ?_ _ | refine blk_drew ?_ | refine blk_alloc ?_ _)); exact BK133.out⟩, ⟨by (with_reducible repeat (first | refine blk_drewN ?_ _ | refine blk_drew ?_ | refine blk_alloc ?_ _)); exact BK150.out⟩, ⟨by repeat (first | (with_reducible first | exact HB.out | apply below_alloc | apply pw_below_drewN | apply below_drew1 | refine below_set ?_ GE132.out | refine below_set ?_ GE133.out | refine below_set ?_ GE150.out) | exact HB.out)⟩⟩
                          · replace c115 := Bool.eq_false_iff.mpr c115
                            subst c115
                            have H1 : (spec_ReadLine.j3 k2 t134 t148 x11_2 t156 false 0 0 0 0 0 0 0 (⟨#[]⟩ : ByteArray) 3 t148 x151002_2 x151003_2 x151004_2 0 0 (⟨#[]⟩ : ByteArray)) = some (r1, r2, r3, r4, r5, r6, r7, r8) := by rw [if_neg (show ¬ (false = true) by decide)] at H; exact H
                            clear H
                            have H := H1
                            clear H1
                            have H' := Aside0.mk H
                            clear H
                            go_wp2
                            repeat (go_quiet (fail); try go_wp2)
                            go_meet
                            case rel => exact ⟨_, (false), (by first | rfl | (simp; done) | (simp [*]; done)), H', ⟨by have := HJ8.out; have := HK2.out; first | omega | exact Nat.le_refl _⟩, ⟨by (with_reducible repeat (first | apply Kd.R_alloc | apply Kd.R_drewN | apply Kd.R_drew)); exact HO_4.out⟩, ⟨by (with_reducible repeat (first | refine blk_drewN ?_ _ | refine blk_drew ?_ | refine blk_alloc ?_ _)); exact BK132.out⟩, ⟨by (with_reducible repeat (first | refine blk_drewN ?_ _ | refine blk_drew ?_ | refine blk_alloc ?_ _)); exact BK133.out⟩, ⟨by (with_reducible repeat (first | refine blk_drewN ?_ _ | refine blk_drew ?_ | refine blk_alloc ?_ _)); exact BK150.out⟩, ⟨by repeat (first | (with_reducible first | exact HB.out | apply below_alloc | apply pw_below_drewN | apply below_drew1 | refine below_set ?_ GE132.out | refine below_set ?_ GE133.out | refine below_set ?_ GE150.out) | exact HB.out)⟩⟩
                         case rest =>
                          clear HC114
                          try clear c1
                          try clear p1
                          try clear q1
                          try clear hx1
                          try clear c2
                          try clear p2
                          try clear q2
                          try clear c3
                          try clear c4
                          try clear c5
                          try clear c6
                          try clear p6
                          try clear c7
                          try clear c8
                          try clear c9
                          try clear c10
                          try clear c11
                          try clear p13
                          try clear q13
                          try clear hx13
                          try clear p14
                          try clear q14
                          try clear hx14
                          try clear p15
                          try clear q15
                          try clear hx15
                          try clear p21
                          try clear q21
                          try clear c28
                          try clear c28b0
                          try clear c28b1
                          try clear c29
                          try clear c29b0
                          try clear c29b1
                          try clear c31
                          try clear c33
                          try clear c36
                          try clear c39
                          try clear c39b0
                          try clear c39b1
                          try clear c40
                          try clear c40b0
                          try clear c40b1
                          try clear c41
                          try clear c41b0
                          try clear c41b1
                          try clear c42
                          try clear c42b0
                          try clear c42b1
                          try clear c44
                          try clear c45
                          try clear c45b0
                          try clear c47
                          try clear c51
                          try clear c54
                          try clear c58
                          try clear c62
                          try clear c62b0
                          try clear p64
                          try clear c65
                          try clear c73
                          try clear c74
                          try clear c76
                          try clear c76b0
                          try clear c77
                          try clear c77b0
                          try clear c77b1
                          try clear c78
                          try clear c78b0
                          try clear c78b1
                          try clear c80
                          try clear c80b0
                          try clear c81
                          try clear c81b0
                          try clear c82
                          try clear c82b0
                          try clear c84
                          try clear c85
                          try clear c86
                          try clear c88
                          try clear c90
                          try clear c90b0
                          try clear c91
                          try clear c91b0
                          try clear c93
                          try clear c93b0
                          try clear c93b1
                          try clear c94
                          try clear c95
                          try clear c97
                          try clear c97b0
                          try clear c97b1
                          try clear c98
                          try clear c99
                          try clear c101
                          try clear c102
                          try clear c104
                          try clear c104b0
                          try clear c104b1
                          try clear c105
                          try clear c105b0
                          try clear c106
                          try clear c107
                          try clear c109
                          try clear c111
                          try clear c111b0
                          try clear c112
                          try clear c112b0
                          try clear c115
                          try clear hx137_0
                          try clear hx138_0
                          try clear hx139_0
                          try clear hx140_0
                          try clear hx141_0
                          try clear hx143_0
                          try clear hx144_0
                          try clear hx147_0
                          try clear hx151_0
                          try clear hx153_0
                          try clear hx155_0
                          try clear p1
                          try clear p13
                          try clear p137
                          try clear p138
                          try clear p139
                          try clear p14
                          try clear p140
                          try clear p141
                          try clear p143
                          try clear p144
                          try clear p147
                          try clear p151
                          try clear p153
                          try clear p155
                          try clear p2
                          try clear p21
                          try clear p6
                          try clear p64
                          try clear q1
                          try clear q13
                          try clear q137
                          try clear q138
                          try clear q139
                          try clear q14
                          try clear q140
                          try clear q141
                          try clear q143
                          try clear q144
                          try clear q147
                          try clear q151
                          try clear q153
                          try clear q155
                          try clear q2
                          try clear q21
                          obtain ⟨kq, x162_113, rfl, HA, HJ113, HO_4, BK132, BK133, BK150, HB⟩ := hcut
                          cases kq with
                          | zero => exact absurd HA.out (by simp [spec_ReadLine.j3])
                          | succ kj113 =>
                           have H := HA.out
                           clear HA
                           simp only [spec_ReadLine.j3] at H
                           by_cases c116 : x162_113 = true
                           · subst c116
                             have H1 : (if (wrap64 (x11_2 + 1)) = (t134.length : Int) then (some (3, t148, x151002_2, x151003_2, x151004_2, t156, 0, (⟨#[]⟩ : ByteArray))) else (some (0, 0, 0, 0, 0, 0, 0, (⟨#[]⟩ : ByteArray)))) = some (r1, r2, r3, r4, r5, r6, r7, r8) := by rw [if_pos rfl] at H; exact H
                             clear H
                             have H := H1
                             clear H1
                             by_cases c117 : (wrap64 (x11_2 + 1)) = (t134.length : Int)
                             · rw [if_pos c117] at H
                               have c117b0 : ((wrap64 (x11_2 + 1)) == (t134.length : Int)) = true := beq_iff_eq.mpr c117
                               have c117b1 : ((wrap64 (x11_2 + 1)) != (t134.length : Int)) = false := bne_eq_false_iff_eq.mpr c117
                               clear c117
                               simp only [Option.some.injEq, Prod.mk.injEq] at H
                               obtain ⟨rfl, rfl, rfl, rfl, rfl, rfl, rfl, rfl⟩ := H
                               have hnb118 := NB150_132.out
                               have hnc118 := NB132_150.out
                               have hnb119 := NB150_133.out
                               have hnc119 := NB133_150.out
                               have hcz120_0 : wc.cell? ⟨gb150, 0, none⟩ = some (.int .i64 3) := (blk_cell BK150.out 0).trans rfl
                               have hcz120_1 : wc.cell? ⟨gb150, 1, none⟩ = some (.int .i64 t148) := (blk_cell BK150.out 1).trans rfl
                               have hcz120_2 : wc.cell? ⟨gb150, 2, none⟩ = some (.int .i64 x151002_2) := (blk_cell BK150.out 2).trans rfl
                               have hcz120_3 : wc.cell? ⟨gb150, 3, none⟩ = some (.int .i64 x151003_2) := (blk_cell BK150.out 3).trans rfl
                               have hcz120_4 : wc.cell? ⟨gb150, 4, none⟩ = some (.int .i64 x151004_2) := (blk_cell BK150.out 4).trans rfl
                               have hcz120_5 : wc.cell? ⟨gb150, 5, none⟩ = some (.int .i64 0) := (blk_cell BK150.out 5).trans rfl
                               have hcz120_6 : wc.cell? ⟨gb150, 6, none⟩ = some (.int .u32 0) := (blk_cell BK150.out 6).trans rfl
                               have hcz120_7 : wc.cell? ⟨gb150, 7, none⟩ = some (.string (⟨#[]⟩ : ByteArray)) := (blk_cell BK150.out 7).trans rfl
                               have hfz120_0 := blk_frozen BK150.out 0
                               have hfz120_1 := blk_frozen BK150.out 1
                               have hfz120_2 := blk_frozen BK150.out 2
                               have hfz120_3 := blk_frozen BK150.out 3
                               have hfz120_4 := blk_frozen BK150.out 4
                               have hfz120_5 := blk_frozen BK150.out 5
                               have hfz120_6 := blk_frozen BK150.out 6
                               have hfz120_7 := blk_frozen BK150.out 7
                               have hnb121 := NB132_133.out
                               have hnc121 := NB133_132.out
                               have hcz122_0 : wc.cell? ⟨gb132, 0, none⟩ = some (.int .i64 x133000_2) := (blk_cell BK132.out 0).trans rfl
                               have hcz122_1 : wc.cell? ⟨gb132, 1, none⟩ = some (.int .i64 x133001_2) := (blk_cell BK132.out 1).trans rfl
                               have hcz122_2 : wc.cell? ⟨gb132, 2, none⟩ = some (.int .i64 x133002_2) := (blk_cell BK132.out 2).trans rfl
                               have hcz122_3 : wc.cell? ⟨gb132, 3, none⟩ = some (.int .i64 x133003_2) := (blk_cell BK132.out 3).trans rfl
                               have hcz122_4 : wc.cell? ⟨gb132, 4, none⟩ = some (.int .i64 x133004_2) := (blk_cell BK132.out 4).trans rfl
                               have hcz122_5 : wc.cell? ⟨gb132, 5, none⟩ = some (.int .i64 x133005_2) := (blk_cell BK132.out 5).trans rfl
                               have hcz122_6 : wc.cell? ⟨gb132, 6, none⟩ = some (.int .u32 x133006_2) := (blk_cell BK132.out 6).trans rfl
                               have hcz122_7 : wc.cell? ⟨gb132, 7, none⟩ = some (.string x133007_2) := (blk_cell BK132.out 7).trans rfl
                               have hfz122_0 := blk_frozen BK132.out 0
                               have hfz122_1 := blk_frozen BK132.out 1
                               have hfz122_2 := blk_frozen BK132.out 2
                               have hfz122_3 := blk_frozen BK132.out 3
                               have hfz122_4 := blk_frozen BK132.out 4
                               have hfz122_5 := blk_frozen BK132.out 5
                               have hfz122_6 := blk_frozen BK132.out 6
                               have hfz122_7 := blk_frozen BK132.out 7
                               go_wp2
                               repeat (go_quiet (fail); try go_wp2)
                               refine bodyPost_ret (results_cell_row rfl _ _ gb132 33 #[.int .i64 3, .int .i64 t148, .int .i64 x151002_2, .int .i64 x151003_2, .int .i64 x151004_2, .int .i64 t156, .int .u32 0, .string (⟨#[]⟩ : ByteArray)] (0, 0) _ rfl (by (with_reducible repeat (first | refine blk_drewN ?_ _ | refine blk_drew ?_ | refine blk_alloc ?_ _)); refine blk_put (cs := #[.int .i64 3, .int .i64 t148, .int .i64 x151002_2, .int .i64 x151003_2, .int .i64 x151004_2, .int .i64 t156, .int .u32 0, .string x133007_2]) ?_ 7 _ rfl; refine blk_put (cs := #[.int .i64 3, .int .i64 t148, .int .i64 x151002_2, .int .i64 x151003_2, .int .i64 x151004_2, .int .i64 t156, .int .u32 x133006_2, .string x133007_2]) ?_ 6 _ rfl; refine blk_put (cs := #[.int .i64 3, .int .i64 t148, .int .i64 x151002_2, .int .i64 x151003_2, .int .i64 x151004_2, .int .i64 x133005_2, .int .u32 x133006_2, .string x133007_2]) ?_ 5 _ rfl; refine blk_put (cs := #[.int .i64 3, .int .i64 t148, .int .i64 x151002_2, .int .i64 x151003_2, .int .i64 x133004_2, .int .i64 x133005_2, .int .u32 x133006_2, .string x133007_2]) ?_ 4 _ rfl; refine blk_put (cs := #[.int .i64 3, .int .i64 t148, .int .i64 x151002_2, .int .i64 x133003_2, .int .i64 x133004_2, .int .i64 x133005_2, .int .u32 x133006_2, .string x133007_2]) ?_ 3 _ rfl; refine blk_put (cs := #[.int .i64 3, .int .i64 t148, .int .i64 x133002_2, .int .i64 x133003_2, .int .i64 x133004_2, .int .i64 x133005_2, .int .u32 x133006_2, .string x133007_2]) ?_ 2 _ rfl; refine blk_put (cs := #[.int .i64 3, .int .i64 x133001_2, .int .i64 x133002_2, .int .i64 x133003_2, .int .i64 x133004_2, .int .i64 x133005_2, .int .u32 x133006_2, .string x133007_2]) ?_ 1 _ rfl; refine blk_put (cs := #[.int .i64 x133000_2, .int .i64 x133001_2, .int .i64 x133002_2, .int .i64 x133003_2, .int .i64 x133004_2, .int .i64 x133005_2, .int .u32 x133006_2, .string x133007_2]) ?_ 0 _ rfl; (with_reducible repeat (first | refine blk_drewN ?_ _ | refine blk_drew ?_ | refine blk_alloc ?_ _)); refine blk_far ?_ NB132_150.out _; (with_reducible repeat (first | refine blk_drewN ?_ _ | refine blk_drew ?_ | refine blk_alloc ?_ _)); exact BK132.out) Tryd.underlying33 rfl (by kernel_rfl)) rfl ?_
                               exact ⟨by first | rfl | (simp [errW_none, errW_some] <;> rfl) | (simp [*, errW_none, errW_some] <;> rfl), by repeat (first | (with_reducible first | exact HB.out | apply below_alloc | apply pw_below_drewN | apply below_drew1 | refine below_set ?_ GE132.out | refine below_set ?_ GE133.out | refine below_set ?_ GE150.out) | exact HB.out)⟩
                             · rw [if_neg c117] at H
                               have c117b0 : ((wrap64 (x11_2 + 1)) == (t134.length : Int)) = false := beq_eq_false_iff_ne.mpr c117
                               have c117b1 : ((wrap64 (x11_2 + 1)) != (t134.length : Int)) = true := bne_iff_ne.mpr c117
                               simp only [Option.some.injEq, Prod.mk.injEq] at H
                               obtain ⟨rfl, rfl, rfl, rfl, rfl, rfl, rfl, rfl⟩ := H
                               have hnb123 := NB150_132.out
                               have hnc123 := NB132_150.out
                               have hnb124 := NB150_133.out
                               have hnc124 := NB133_150.out
                               have hcz125_0 : wc.cell? ⟨gb150, 0, none⟩ = some (.int .i64 3) := (blk_cell BK150.out 0).trans rfl
                               have hcz125_1 : wc.cell? ⟨gb150, 1, none⟩ = some (.int .i64 t148) := (blk_cell BK150.out 1).trans rfl
                               have hcz125_2 : wc.cell? ⟨gb150, 2, none⟩ = some (.int .i64 x151002_2) := (blk_cell BK150.out 2).trans rfl
                               have hcz125_3 : wc.cell? ⟨gb150, 3, none⟩ = some (.int .i64 x151003_2) := (blk_cell BK150.out 3).trans rfl
                               have hcz125_4 : wc.cell? ⟨gb150, 4, none⟩ = some (.int .i64 x151004_2) := (blk_cell BK150.out 4).trans rfl
                               have hcz125_5 : wc.cell? ⟨gb150, 5, none⟩ = some (.int .i64 0) := (blk_cell BK150.out 5).trans rfl
                               have hcz125_6 : wc.cell? ⟨gb150, 6, none⟩ = some (.int .u32 0) := (blk_cell BK150.out 6).trans rfl
                               have hcz125_7 : wc.cell? ⟨gb150, 7, none⟩ = some (.string (⟨#[]⟩ : ByteArray)) := (blk_cell BK150.out 7).trans rfl
                               have hfz125_0 := blk_frozen BK150.out 0
                               have hfz125_1 := blk_frozen BK150.out 1
                               have hfz125_2 := blk_frozen BK150.out 2
                               have hfz125_3 := blk_frozen BK150.out 3
                               have hfz125_4 := blk_frozen BK150.out 4
                               have hfz125_5 := blk_frozen BK150.out 5
                               have hfz125_6 := blk_frozen BK150.out 6
                               have hfz125_7 := blk_frozen BK150.out 7
                               have hnb126 := NB133_132.out
                               have hnc126 := NB132_133.out
                               have hcz127_0 : wc.cell? ⟨gb133, 0, none⟩ = some (.int .i64 0) := (blk_cell BK133.out 0).trans rfl
                               have hcz127_1 : wc.cell? ⟨gb133, 1, none⟩ = some (.int .i64 0) := (blk_cell BK133.out 1).trans rfl
                               have hcz127_2 : wc.cell? ⟨gb133, 2, none⟩ = some (.int .i64 0) := (blk_cell BK133.out 2).trans rfl
                               have hcz127_3 : wc.cell? ⟨gb133, 3, none⟩ = some (.int .i64 0) := (blk_cell BK133.out 3).trans rfl
                               have hcz127_4 : wc.cell? ⟨gb133, 4, none⟩ = some (.int .i64 0) := (blk_cell BK133.out 4).trans rfl
                               have hcz127_5 : wc.cell? ⟨gb133, 5, none⟩ = some (.int .i64 0) := (blk_cell BK133.out 5).trans rfl
                               have hcz127_6 : wc.cell? ⟨gb133, 6, none⟩ = some (.int .u32 0) := (blk_cell BK133.out 6).trans rfl
                               have hcz127_7 : wc.cell? ⟨gb133, 7, none⟩ = some (.string (⟨#[]⟩ : ByteArray)) := (blk_cell BK133.out 7).trans rfl
                               have hfz127_0 := blk_frozen BK133.out 0
                               have hfz127_1 := blk_frozen BK133.out 1
                               have hfz127_2 := blk_frozen BK133.out 2
                               have hfz127_3 := blk_frozen BK133.out 3
                               have hfz127_4 := blk_frozen BK133.out 4
                               have hfz127_5 := blk_frozen BK133.out 5
                               have hfz127_6 := blk_frozen BK133.out 6
                               have hfz127_7 := blk_frozen BK133.out 7
                               have hcz128_0 : wc.cell? ⟨gb132, 0, none⟩ = some (.int .i64 x133000_2) := (blk_cell BK132.out 0).trans rfl
                               have hcz128_1 : wc.cell? ⟨gb132, 1, none⟩ = some (.int .i64 x133001_2) := (blk_cell BK132.out 1).trans rfl
                               have hcz128_2 : wc.cell? ⟨gb132, 2, none⟩ = some (.int .i64 x133002_2) := (blk_cell BK132.out 2).trans rfl
                               have hcz128_3 : wc.cell? ⟨gb132, 3, none⟩ = some (.int .i64 x133003_2) := (blk_cell BK132.out 3).trans rfl
                               have hcz128_4 : wc.cell? ⟨gb132, 4, none⟩ = some (.int .i64 x133004_2) := (blk_cell BK132.out 4).trans rfl
                               have hcz128_5 : wc.cell? ⟨gb132, 5, none⟩ = some (.int .i64 x133005_2) := (blk_cell BK132.out 5).trans rfl
                               have hcz128_6 : wc.cell? ⟨gb132, 6, none⟩ = some (.int .u32 x133006_2) := (blk_cell BK132.out 6).trans rfl
                               have hcz128_7 : wc.cell? ⟨gb132, 7, none⟩ = some (.string x133007_2) := (blk_cell BK132.out 7).trans rfl
                               have hfz128_0 := blk_frozen BK132.out 0
                               have hfz128_1 := blk_frozen BK132.out 1
                               have hfz128_2 := blk_frozen BK132.out 2
                               have hfz128_3 := blk_frozen BK132.out 3
                               have hfz128_4 := blk_frozen BK132.out 4
                               have hfz128_5 := blk_frozen BK132.out 5
                               have hfz128_6 := blk_frozen BK132.out 6
                               have hfz128_7 := blk_frozen BK132.out 7
                               go_wp2
                               repeat (go_quiet (fail); try go_wp2)
                               refine bodyPost_ret (results_cell_row rfl _ _ gb132 33 #[.int .i64 0, .int .i64 0, .int .i64 0, .int .i64 0, .int .i64 0, .int .i64 0, .int .u32 0, .string (⟨#[]⟩ : ByteArray)] (0, 0) _ rfl (by (with_reducible repeat (first | refine blk_drewN ?_ _ | refine blk_drew ?_ | refine blk_alloc ?_ _)); refine blk_put (cs := #[.int .i64 0, .int .i64 0, .int .i64 0, .int .i64 0, .int .i64 0, .int .i64 0, .int .u32 0, .string x133007_2]) ?_ 7 _ rfl; refine blk_put (cs := #[.int .i64 0, .int .i64 0, .int .i64 0, .int .i64 0, .int .i64 0, .int .i64 0, .int .u32 x133006_2, .string x133007_2]) ?_ 6 _ rfl; refine blk_put (cs := #[.int .i64 0, .int .i64 0, .int .i64 0, .int .i64 0, .int .i64 0, .int .i64 x133005_2, .int .u32 x133006_2, .string x133007_2]) ?_ 5 _ rfl; refine blk_put (cs := #[.int .i64 0, .int .i64 0, .int .i64 0, .int .i64 0, .int .i64 x133004_2, .int .i64 x133005_2, .int .u32 x133006_2, .string x133007_2]) ?_ 4 _ rfl; refine blk_put (cs := #[.int .i64 0, .int .i64 0, .int .i64 0, .int .i64 x133003_2, .int .i64 x133004_2, .int .i64 x133005_2, .int .u32 x133006_2, .string x133007_2]) ?_ 3 _ rfl; refine blk_put (cs := #[.int .i64 0, .int .i64 0, .int .i64 x133002_2, .int .i64 x133003_2, .int .i64 x133004_2, .int .i64 x133005_2, .int .u32 x133006_2, .string x133007_2]) ?_ 2 _ rfl; refine blk_put (cs := #[.int .i64 0, .int .i64 x133001_2, .int .i64 x133002_2, .int .i64 x133003_2, .int .i64 x133004_2, .int .i64 x133005_2, .int .u32 x133006_2, .string x133007_2]) ?_ 1 _ rfl; refine blk_put (cs := #[.int .i64 x133000_2, .int .i64 x133001_2, .int .i64 x133002_2, .int .i64 x133003_2, .int .i64 x133004_2, .int .i64 x133005_2, .int .u32 x133006_2, .string x133007_2]) ?_ 0 _ rfl; (with_reducible repeat (first | refine blk_drewN ?_ _ | refine blk_drew ?_ | refine blk_alloc ?_ _)); refine blk_far ?_ NB132_150.out _; (with_reducible repeat (first | refine blk_drewN ?_ _ | refine blk_drew ?_ | refine blk_alloc ?_ _)); exact BK132.out) Tryd.underlying33 rfl (by kernel_rfl)) rfl ?_
                               exact ⟨by first | rfl | (simp [errW_none, errW_some] <;> rfl) | (simp [*, errW_none, errW_some] <;> rfl), by repeat (first | (with_reducible first | exact HB.out | apply below_alloc | apply pw_below_drewN | apply below_drew1 | refine below_set ?_ GE132.out | refine below_set ?_ GE133.out | refine below_set ?_ GE150.out) | exact HB.out)⟩
                           · replace c116 := Bool.eq_false_iff.mpr c116
                             subst c116
                             have H1 : ((spec_l01In.f t148 19 22).bind fun t158 => (if t158 = true then (if 0 ≤ x11_2 then (if x11_2 < (t134.length : Int) then ((spec_LabelOk.f kj113 (rdOf ByteArray.empty t134 x11_2)).bind fun t160 => (spec_ReadLine.j4 kj113 t134 x11_2 t160 0 0 0 0 0 0 0 (⟨#[]⟩ : ByteArray) 3 t148 x151002_2 x151003_2 x151004_2 0 0 (⟨#[]⟩ : ByteArray))) else (none)) else (none)) else (spec_ReadLine.j4 kj113 t134 x11_2 false 0 0 0 0 0 0 0 (⟨#[]⟩ : ByteArray) 3 t148 x151002_2 x151003_2 x151004_2 0 0 (⟨#[]⟩ : ByteArray)))) = some (r1, r2, r3, r4, r5, r6, r7, r8) := by rw [if_neg (show ¬ (false = true) by decide)] at H; exact H
                             clear H
                             have H := H1
                             clear H1
                             have HC129 := Aside0.mk H
                             clear H
                             go_upto_region 44 with (fail)
                             repeat (go_quiet (fail); go_upto_region 44 with (fail))
                             go_cut [174] (fun v174 wc => ∃ (kq : Nat) (x174_128 : Bool), v174 = .bool x174_128 ∧ Aside0 (spec_ReadLine.j4 kq t134 x11_2 x174_128 0 0 0 0 0 0 0 (⟨#[]⟩ : ByteArray) 3 t148 x151002_2 x151003_2 x151004_2 0 0 (⟨#[]⟩ : ByteArray) = some (r1, r2, r3, r4, r5, r6, r7, r8)) ∧ Aside0 (kq ≤ kj113) ∧ Aside0 (Kd.R Kd.string 9 wc w.heap.size (fun _ => True) (.slice (some ad143) t134.length co69) t134) ∧ Aside0 (wc.heap[gb132]? = some (.cells #[.int .i64 x133000_2, .int .i64 x133001_2, .int .i64 x133002_2, .int .i64 x133003_2, .int .i64 x133004_2, .int .i64 x133005_2, .int .u32 x133006_2, .string x133007_2] 33 (0, 0))) ∧ Aside0 (wc.heap[gb133]? = some (.cells #[.int .i64 0, .int .i64 0, .int .i64 0, .int .i64 0, .int .i64 0, .int .i64 0, .int .u32 0, .string (⟨#[]⟩ : ByteArray)] 33 (0, 0))) ∧ Aside0 (wc.heap[gb150]? = some (.cells #[.int .i64 3, .int .i64 t148, .int .i64 x151002_2, .int .i64 x151003_2, .int .i64 x151004_2, .int .i64 0, .int .u32 0, .string (⟨#[]⟩ : ByteArray)] 33 (0, 0))) ∧ Aside0 (Below w.heap.size w wc))
                             case first =>
                              have H := HC129.out
                              clear HC129
                              replace H := Option.bind_eq_some_iff.mp H
                              obtain ⟨t158, A1300, H⟩ := H
                              replace H : (if t158 = true then (if 0 ≤ x11_2 then (if x11_2 < (t134.length : Int) then ((spec_LabelOk.f kj113 (rdOf ByteArray.empty t134 x11_2)).bind fun t160 => (spec_ReadLine.j4 kj113 t134 x11_2 t160 0 0 0 0 0 0 0 (⟨#[]⟩ : ByteArray) 3 t148 x151002_2 x151003_2 x151004_2 0 0 (⟨#[]⟩ : ByteArray))) else (none)) else (none)) else (spec_ReadLine.j4 kj113 t134 x11_2 false 0 0 0 0 0 0 0 (⟨#[]⟩ : ByteArray) 3 t148 x151002_2 x151003_2 x151004_2 0 0 (⟨#[]⟩ : ByteArray))) = some (r1, r2, r3, r4, r5, r6, r7, r8) := H
                              have A130 := Aside0.mk A1300
                              clear A1300
                              by_cases c131 : t158 = true
                              · subst c131
                                have H1 : (if 0 ≤ x11_2 then (if x11_2 < (t134.length : Int) then ((spec_LabelOk.f kj113 (rdOf ByteArray.empty t134 x11_2)).bind fun t160 => (spec_ReadLine.j4 kj113 t134 x11_2 t160 0 0 0 0 0 0 0 (⟨#[]⟩ : ByteArray) 3 t148 x151002_2 x151003_2 x151004_2 0 0 (⟨#[]⟩ : ByteArray))) else (none)) else (none)) = some (r1, r2, r3, r4, r5, r6, r7, r8) := by rw [if_pos rfl] at H; exact H
                                clear H
                                have H := H1
                                clear H1
                                by_cases c132 : 0 ≤ x11_2
                                · rw [if_pos c132] at H
                                  have c132b0 : decide (0 ≤ x11_2) = true := decide_eq_true c132
                                  clear c132
                                  (first | rw [c132b0] | (simp only [i64_w, i32_w]; rw [c132b0]) | skip)
                                  by_cases c133 : x11_2 < (t134.length : Int)
                                  · rw [if_pos c133] at H
                                    have c133b0 : decide (x11_2 < (t134.length : Int)) = true := decide_eq_true c133
                                    clear c133
                                    replace H := Option.bind_eq_some_iff.mp H
                                    obtain ⟨t160, A1340, H⟩ := H
                                    replace H : (spec_ReadLine.j4 kj113 t134 x11_2 t160 0 0 0 0 0 0 0 (⟨#[]⟩ : ByteArray) 3 t148 x151002_2 x151003_2 x151004_2 0 0 (⟨#[]⟩ : ByteArray)) = some (r1, r2, r3, r4, r5, r6, r7, r8) := H
                                    have A134 := Aside0.mk A1340
                                    clear A1340
                                    have H' := Aside0.mk H
                                    clear H
                                    go_wp2_with (first | (go_at_call 42; (with_reducible refine (spec_l01In.calls t148 19 22 true _ A130.out).mono ?_); rintro e w' ⟨rfl, ⟨nd, rfl⟩⟩; (try first | exact ⟨rfl, _, World.drewN_drewN _ _ _⟩ | exact ⟨rfl, _, Eq.trans (World.drewN_drewN _ _ _) (congrArg (World.drewN _) (Nat.add_assoc _ _ _))⟩); have p159 : 0 ≤ (x11_2 : Int) := of_decide_eq_true (by first | (with_reducible assumption) | assumption); have q159 : x11_2 < (t134.length : Int) := of_decide_eq_true (by first | (with_reducible assumption) | assumption); obtain ⟨ad159, e159, hx159_0⟩ := Kd.at_string (Kd.R_reads' HO_4.out).2.2 x11_2 p159 q159; obtain rfl : ad143 = ad159 := (by injection e159); replace p159 := eq_true p159; replace q159 := eq_true q159) | (go_at_call 38; (with_reducible refine (spec_LabelOk.calls kj113 (rdOf ByteArray.empty t134 x11_2) t160 _ A134.out).mono ?_); rintro e w' ⟨rfl, ⟨nd, rfl⟩⟩; (try first | exact ⟨rfl, _, World.drewN_drewN _ _ _⟩ | exact ⟨rfl, _, Eq.trans (World.drewN_drewN _ _ _) (congrArg (World.drewN _) (Nat.add_assoc _ _ _))⟩)))
                                    repeat (go_quiet (first | (go_at_call 42; (with_reducible refine (spec_l01In.calls t148 19 22 true _ A130.out).mono ?_); rintro e w' ⟨rfl, ⟨nd, rfl⟩⟩; (try first | exact ⟨rfl, _, World.drewN_drewN _ _ _⟩ | exact ⟨rfl, _, Eq.trans (World.drewN_drewN _ _ _) (congrArg (World.drewN _) (Nat.add_assoc _ _ _))⟩); have p159 : 0 ≤ (x11_2 : Int) := of_decide_eq_true (by first | (with_reducible assumption) | assumption); have q159 : x11_2 < (t134.length : Int) := of_decide_eq_true (by first | (with_reducible assumption) | assumption); obtain ⟨ad159, e159, hx159_0⟩ := Kd.at_string (Kd.R_reads' HO_4.out).2.2 x11_2 p159 q159; obtain rfl : ad143 = ad159 := (by injection e159); replace p159 := eq_true p159; replace q159 := eq_true q159) | (go_at_call 38; (with_reducible refine (spec_LabelOk.calls kj113 (rdOf ByteArray.empty t134 x11_2) t160 _ A134.out).mono ?_); rintro e w' ⟨rfl, ⟨nd, rfl⟩⟩; (try first | exact ⟨rfl, _, World.drewN_drewN _ _ _⟩ | exact ⟨rfl, _, Eq.trans (World.drewN_drewN _ _ _) (congrArg (World.drewN _) (Nat.add_assoc _ _ _))⟩))); try go_wp2_with (first | (go_at_call 42; (with_reducible refine (spec_l01In.calls t148 19 22 true _ A130.out).mono ?_); rintro e w' ⟨rfl, ⟨nd, rfl⟩⟩; (try first | exact ⟨rfl, _, World.drewN_drewN _ _ _⟩ | exact ⟨rfl, _, Eq.trans (World.drewN_drewN _ _ _) (congrArg (World.drewN _) (Nat.add_assoc _ _ _))⟩); have p159 : 0 ≤ (x11_2 : Int) := of_decide_eq_true (by first | (with_reducible assumption) | assumption); have q159 : x11_2 < (t134.length : Int) := of_decide_eq_true (by first | (with_reducible assumption) | assumption); obtain ⟨ad159, e159, hx159_0⟩ := Kd.at_string (Kd.R_reads' HO_4.out).2.2 x11_2 p159 q159; obtain rfl : ad143 = ad159 := (by injection e159); replace p159 := eq_true p159; replace q159 := eq_true q159) | (go_at_call 38; (with_reducible refine (spec_LabelOk.calls kj113 (rdOf ByteArray.empty t134 x11_2) t160 _ A134.out).mono ?_); rintro e w' ⟨rfl, ⟨nd, rfl⟩⟩; (try first | exact ⟨rfl, _, World.drewN_drewN _ _ _⟩ | exact ⟨rfl, _, Eq.trans (World.drewN_drewN _ _ _) (congrArg (World.drewN _) (Nat.add_assoc _ _ _))⟩))))
                                    go_meet
                                    case rel => exact ⟨_, (t160), (by first | rfl | (simp; done) | (simp [*]; done)), H', ⟨by have := HJ8.out; have := HK2.out; have := HJ113.out; first | omega | exact Nat.le_refl _⟩, ⟨by (with_reducible repeat (first | apply Kd.R_alloc | apply Kd.R_drewN | apply Kd.R_drew)); exact HO_4.out⟩, ⟨by (with_reducible repeat (first | refine blk_drewN ?_ _ | refine blk_drew ?_ | refine blk_alloc ?_ _)); exact BK132.out⟩, ⟨by (with_reducible repeat (first | refine blk_drewN ?_ _ | refine blk_drew ?_ | refine blk_alloc ?_ _)); exact BK133.out⟩, ⟨by (with_reducible repeat (first | refine blk_drewN ?_ _ | refine blk_drew ?_ | refine blk_alloc ?_ _)); exact BK150.out⟩, ⟨by repeat (first | (with_reducible first | exact HB.out | apply below_alloc | apply pw_below_drewN | apply below_drew1 | refine below_set ?_ GE132.out | refine below_set ?_ GE133.out | refine below_set ?_ GE150.out) | exact HB.out)⟩⟩
                                  · rw [if_neg c133] at H
                                    exact absurd H (by simp)
                                · rw [if_neg c132] at H
                                  exact absurd H (by simp)
                              · replace c131 := Bool.eq_false_iff.mpr c131
                                subst c131
                                have H1 : (spec_ReadLine.j4 kj113 t134 x11_2 false 0 0 0 0 0 0 0 (⟨#[]⟩ : ByteArray) 3 t148 x151002_2 x151003_2 x151004_2 0 0 (⟨#[]⟩ : ByteArray)) = some (r1, r2, r3, r4, r5, r6, r7, r8) := by rw [if_neg (show ¬ (false = true) by decide)] at H; exact H
                                clear H
                                have H := H1
                                clear H1
                                have H' := Aside0.mk H
                                clear H
                                go_wp2_with (first | (go_at_call 42; (with_reducible refine (spec_l01In.calls t148 19 22 false _ A130.out).mono ?_); rintro e w' ⟨rfl, ⟨nd, rfl⟩⟩; (try first | exact ⟨rfl, _, World.drewN_drewN _ _ _⟩ | exact ⟨rfl, _, Eq.trans (World.drewN_drewN _ _ _) (congrArg (World.drewN _) (Nat.add_assoc _ _ _))⟩)))
                                go_meet
                                case rel => exact ⟨_, (false), (by first | rfl | (simp; done) | (simp [*]; done)), H', ⟨by have := HJ8.out; have := HK2.out; have := HJ113.out; first | omega | exact Nat.le_refl _⟩, ⟨by (with_reducible repeat (first | apply Kd.R_alloc | apply Kd.R_drewN | apply Kd.R_drew)); exact HO_4.out⟩, ⟨by (with_reducible repeat (first | refine blk_drewN ?_ _ | refine blk_drew ?_ | refine blk_alloc ?_ _)); exact BK132.out⟩, ⟨by (with_reducible repeat (first | refine blk_drewN ?_ _ | refine blk_drew ?_ | refine blk_alloc ?_ _)); exact BK133.out⟩, ⟨by (with_reducible repeat (first | refine blk_drewN ?_ _ | refine blk_drew ?_ | refine blk_alloc ?_ _)); exact BK150.out⟩, ⟨by repeat (first | (with_reducible first | exact HB.out | apply below_alloc | apply pw_below_drewN | apply below_drew1 | refine below_set ?_ GE132.out | refine below_set ?_ GE133.out | refine below_set ?_ GE150.out) | exact HB.out)⟩⟩
                             case rest =>
                              clear HC129
                              try clear c1
                              try clear p1
                              try clear q1
                              try clear hx1
                              try clear p2
                              try clear q2
                              try clear p6
                              try clear c11
                              try clear c12
                              try clear c13
                              try clear p13
                              try clear q13
                              try clear hx13
                              try clear p14
                              try clear q14
                              try clear hx14
                              try clear p15
                              try clear q15
                              try clear hx15
                              try clear p21
                              try clear q21
                              try clear p64
                              try clear c116
                              try clear c117
                              try clear c117b0
                              try clear c117b1
                              try clear c118
                              try clear c119
                              try clear c121
                              try clear c123
                              try clear c124
                              try clear c126
                              try clear c131
                              try clear c132
                              try clear c132b0
                              try clear c133
                              try clear c133b0
                              try clear hx137_0
                              try clear hx138_0
                              try clear hx139_0
                              try clear hx140_0
                              try clear hx141_0
                              try clear hx143_0
                              try clear hx144_0
                              try clear hx147_0
                              try clear hx151_0
                              try clear hx153_0
                              try clear hx155_0
                              try clear hx159_0
                              try clear p1
                              try clear p13
                              try clear p137
                              try clear p138
                              try clear p139
                              try clear p14
                              try clear p140
                              try clear p141
                              try clear p143
                              try clear p144
                              try clear p147
                              try clear p151
                              try clear p153
                              try clear p155
                              try clear p159
                              try clear p2
                              try clear p21
                              try clear p6
                              try clear p64
                              try clear q1
                              try clear q13
                              try clear q137
                              try clear q138
                              try clear q139
                              try clear q14
                              try clear q140
                              try clear q141
                              try clear q143
                              try clear q144
                              try clear q147
                              try clear q151
                              try clear q153
                              try clear q155
                              try clear q159
                              try clear q2
                              try clear q21
                              obtain ⟨kq, x174_128, rfl, HA, HJ128, HO_4, BK132, BK133, BK150, HB⟩ := hcut
                              cases kq with
                              | zero => exact absurd HA.out (by simp [spec_ReadLine.j4])
                              | succ kj128 =>
                               have H := HA.out
                               clear HA
                               simp only [spec_ReadLine.j4] at H
                               by_cases c135 : x174_128 = true
                               · subst c135
                                 have H1 : (if 0 ≤ x11_2 then (if x11_2 < (t134.length : Int) then (if (wrap64 (x11_2 + 1)) = (t134.length : Int) then (some (4, t148, x151002_2, x151003_2, x151004_2, 0, 0, rdOf ByteArray.empty t134 x11_2)) else (some (0, 0, 0, 0, 0, 0, 0, (⟨#[]⟩ : ByteArray)))) else (none)) else (none)) = some (r1, r2, r3, r4, r5, r6, r7, r8) := by rw [if_pos rfl] at H; exact H
                                 clear H
                                 have H := H1
                                 clear H1
                                 by_cases c136 : 0 ≤ x11_2
                                 · rw [if_pos c136] at H
                                   have c136b0 : decide (0 ≤ x11_2) = true := decide_eq_true c136
                                   clear c136
                                   by_cases c137 : x11_2 < (t134.length : Int)
                                   · rw [if_pos c137] at H
                                     have c137b0 : decide (x11_2 < (t134.length : Int)) = true := decide_eq_true c137
                                     clear c137
                                     by_cases c138 : (wrap64 (x11_2 + 1)) = (t134.length : Int)
                                     · rw [if_pos c138] at H
                                       have c138b0 : ((wrap64 (x11_2 + 1)) == (t134.length : Int)) = true := beq_iff_eq.mpr c138
                                       have c138b1 : ((wrap64 (x11_2 + 1)) != (t134.length : Int)) = false := bne_eq_false_iff_eq.mpr c138
                                       clear c138
                                       simp only [Option.some.injEq, Prod.mk.injEq] at H
                                       obtain ⟨rfl, rfl, rfl, rfl, rfl, rfl, rfl, rfl⟩ := H
                                       have hnb139 := NB150_132.out
                                       have hnc139 := NB132_150.out
                                       have hnb140 := NB150_133.out
                                       have hnc140 := NB133_150.out
                                       have hcz141_0 : wc.cell? ⟨gb150, 0, none⟩ = some (.int .i64 3) := (blk_cell BK150.out 0).trans rfl
                                       have hcz141_1 : wc.cell? ⟨gb150, 1, none⟩ = some (.int .i64 t148) := (blk_cell BK150.out 1).trans rfl
                                       have hcz141_2 : wc.cell? ⟨gb150, 2, none⟩ = some (.int .i64 x151002_2) := (blk_cell BK150.out 2).trans rfl
                                       have hcz141_3 : wc.cell? ⟨gb150, 3, none⟩ = some (.int .i64 x151003_2) := (blk_cell BK150.out 3).trans rfl
                                       have hcz141_4 : wc.cell? ⟨gb150, 4, none⟩ = some (.int .i64 x151004_2) := (blk_cell BK150.out 4).trans rfl
                                       have hcz141_5 : wc.cell? ⟨gb150, 5, none⟩ = some (.int .i64 0) := (blk_cell BK150.out 5).trans rfl
                                       have hcz141_6 : wc.cell? ⟨gb150, 6, none⟩ = some (.int .u32 0) := (blk_cell BK150.out 6).trans rfl
                                       have hcz141_7 : wc.cell? ⟨gb150, 7, none⟩ = some (.string (⟨#[]⟩ : ByteArray)) := (blk_cell BK150.out 7).trans rfl
                                       have hfz141_0 := blk_frozen BK150.out 0
                                       have hfz141_1 := blk_frozen BK150.out 1
                                       have hfz141_2 := blk_frozen BK150.out 2
                                       have hfz141_3 := blk_frozen BK150.out 3
                                       have hfz141_4 := blk_frozen BK150.out 4
                                       have hfz141_5 := blk_frozen BK150.out 5
                                       have hfz141_6 := blk_frozen BK150.out 6
                                       have hfz141_7 := blk_frozen BK150.out 7
                                       have p161 : 0 ≤ (x11_2 : Int) := of_decide_eq_true (by first | (with_reducible assumption) | assumption)
                                       have q161 : x11_2 < (t134.length : Int) := of_decide_eq_true (by first | (with_reducible assumption) | assumption)
                                       obtain ⟨ad161, e161, hx161_0⟩ := Kd.at_string (Kd.R_reads' HO_4.out).2.2 x11_2 p161 q161
                                       obtain rfl : ad143 = ad161 := (by injection e161)
                                       have hn161_0 : ad143.block ≠ gb150 := Kd.own_blk (Kd.R_ne HO_4.out BK150.out (by decide))
                                       replace hx161_0 := (cell_far (p := ⟨gb150, 0, none⟩) (by first | (rw [add_block]; exact hn161_0) | (show (Addr.add _ _).block ≠ _; rw [add_block]; exact hn161_0) | exact hn161_0) (.int .i64 4)).trans hx161_0
                                       (try have hy161_0 := fun (n_ : Nat) => (show (((wc.drewN n_).setCell ⟨gb150, 0, none⟩ (.int .i64 4))).cell? _ = some _ from hx161_0))
                                       clear hn161_0
                                       replace p161 := eq_true p161
                                       replace q161 := eq_true q161
                                       have hnb142 := NB132_133.out
                                       have hnc142 := NB133_132.out
                                       have hcz143_0 : wc.cell? ⟨gb132, 0, none⟩ = some (.int .i64 x133000_2) := (blk_cell BK132.out 0).trans rfl
                                       have hcz143_1 : wc.cell? ⟨gb132, 1, none⟩ = some (.int .i64 x133001_2) := (blk_cell BK132.out 1).trans rfl
                                       have hcz143_2 : wc.cell? ⟨gb132, 2, none⟩ = some (.int .i64 x133002_2) := (blk_cell BK132.out 2).trans rfl
                                       have hcz143_3 : wc.cell? ⟨gb132, 3, none⟩ = some (.int .i64 x133003_2) := (blk_cell BK132.out 3).trans rfl
                                       have hcz143_4 : wc.cell? ⟨gb132, 4, none⟩ = some (.int .i64 x133004_2) := (blk_cell BK132.out 4).trans rfl
                                       have hcz143_5 : wc.cell? ⟨gb132, 5, none⟩ = some (.int .i64 x133005_2) := (blk_cell BK132.out 5).trans rfl
                                       have hcz143_6 : wc.cell? ⟨gb132, 6, none⟩ = some (.int .u32 x133006_2) := (blk_cell BK132.out 6).trans rfl
                                       have hcz143_7 : wc.cell? ⟨gb132, 7, none⟩ = some (.string x133007_2) := (blk_cell BK132.out 7).trans rfl
                                       have hfz143_0 := blk_frozen BK132.out 0
                                       have hfz143_1 := blk_frozen BK132.out 1
                                       have hfz143_2 := blk_frozen BK132.out 2
                                       have hfz143_3 := blk_frozen BK132.out 3
                                       have hfz143_4 := blk_frozen BK132.out 4
                                       have hfz143_5 := blk_frozen BK132.out 5
                                       have hfz143_6 := blk_frozen BK132.out 6
                                       have hfz143_7 := blk_frozen BK132.out 7
                                       go_wp2
                                       repeat (go_quiet (fail); try go_wp2)
                                       refine bodyPost_ret (results_cell_row rfl _ _ gb132 33 #[.int .i64 4, .int .i64 t148, .int .i64 x151002_2, .int .i64 x151003_2, .int .i64 x151004_2, .int .i64 0, .int .u32 0, .string (rdOf ByteArray.empty t134 x11_2)] (0, 0) _ rfl (by (with_reducible repeat (first | refine blk_drewN ?_ _ | refine blk_drew ?_ | refine blk_alloc ?_ _)); refine blk_put (cs := #[.int .i64 4, .int .i64 t148, .int .i64 x151002_2, .int .i64 x151003_2, .int .i64 x151004_2, .int .i64 0, .int .u32 0, .string x133007_2]) ?_ 7 _ rfl; refine blk_put (cs := #[.int .i64 4, .int .i64 t148, .int .i64 x151002_2, .int .i64 x151003_2, .int .i64 x151004_2, .int .i64 0, .int .u32 x133006_2, .string x133007_2]) ?_ 6 _ rfl; refine blk_put (cs := #[.int .i64 4, .int .i64 t148, .int .i64 x151002_2, .int .i64 x151003_2, .int .i64 x151004_2, .int .i64 x133005_2, .int .u32 x133006_2, .string x133007_2]) ?_ 5 _ rfl; refine blk_put (cs := #[.int .i64 4, .int .i64 t148, .int .i64 x151002_2, .int .i64 x151003_2, .int .i64 x133004_2, .int .i64 x133005_2, .int .u32 x133006_2, .string x133007_2]) ?_ 4 _ rfl; refine blk_put (cs := #[.int .i64 4, .int .i64 t148, .int .i64 x151002_2, .int .i64 x133003_2, .int .i64 x133004_2, .int .i64 x133005_2, .int .u32 x133006_2, .string x133007_2]) ?_ 3 _ rfl; refine blk_put (cs := #[.int .i64 4, .int .i64 t148, .int .i64 x133002_2, .int .i64 x133003_2, .int .i64 x133004_2, .int .i64 x133005_2, .int .u32 x133006_2, .string x133007_2]) ?_ 2 _ rfl; refine blk_put (cs := #[.int .i64 4, .int .i64 x133001_2, .int .i64 x133002_2, .int .i64 x133003_2, .int .i64 x133004_2, .int .i64 x133005_2, .int .u32 x133006_2, .string x133007_2]) ?_ 1 _ rfl; refine blk_put (cs := #[.int .i64 x133000_2, .int .i64 x133001_2, .int .i64 x133002_2, .int .i64 x133003_2, .int .i64 x133004_2, .int .i64 x133005_2, .int .u32 x133006_2, .string x133007_2]) ?_ 0 _ rfl; (with_reducible repeat (first | refine blk_drewN ?_ _ | refine blk_drew ?_ | refine blk_alloc ?_ _)); refine blk_far ?_ NB132_150.out _; (with_reducible repeat (first | refine blk_drewN ?_ _ | refine blk_drew ?_ | refine blk_alloc ?_ _)); refine blk_far ?_ NB132_150.out _; (with_reducible repeat (first | refine blk_drewN ?_ _ | refine blk_drew ?_ | refine blk_alloc ?_ _)); exact BK132.out) Tryd.underlying33 rfl (by kernel_rfl)) rfl ?_
                                       exact ⟨by first | rfl | (simp [errW_none, errW_some] <;> rfl) | (simp [*, errW_none, errW_some] <;> rfl), by repeat (first | (with_reducible first | exact HB.out | apply below_alloc | apply pw_below_drewN | apply below_drew1 | refine below_set ?_ GE132.out | refine below_set ?_ GE133.out | refine below_set ?_ GE150.out) | exact HB.out)⟩
                                     · rw [if_neg c138] at H
                                       have c138b0 : ((wrap64 (x11_2 + 1)) == (t134.length : Int)) = false := beq_eq_false_iff_ne.mpr c138
                                       have c138b1 : ((wrap64 (x11_2 + 1)) != (t134.length : Int)) = true := bne_iff_ne.mpr c138
                                       simp only [Option.some.injEq, Prod.mk.injEq] at H
                                       obtain ⟨rfl, rfl, rfl, rfl, rfl, rfl, rfl, rfl⟩ := H
                                       have hnb144 := NB150_132.out
                                       have hnc144 := NB132_150.out
                                       have hnb145 := NB150_133.out
                                       have hnc145 := NB133_150.out
                                       have hcz146_0 : wc.cell? ⟨gb150, 0, none⟩ = some (.int .i64 3) := (blk_cell BK150.out 0).trans rfl
                                       have hcz146_1 : wc.cell? ⟨gb150, 1, none⟩ = some (.int .i64 t148) := (blk_cell BK150.out 1).trans rfl
                                       have hcz146_2 : wc.cell? ⟨gb150, 2, none⟩ = some (.int .i64 x151002_2) := (blk_cell BK150.out 2).trans rfl
                                       have hcz146_3 : wc.cell? ⟨gb150, 3, none⟩ = some (.int .i64 x151003_2) := (blk_cell BK150.out 3).trans rfl
                                       have hcz146_4 : wc.cell? ⟨gb150, 4, none⟩ = some (.int .i64 x151004_2) := (blk_cell BK150.out 4).trans rfl
                                       have hcz146_5 : wc.cell? ⟨gb150, 5, none⟩ = some (.int .i64 0) := (blk_cell BK150.out 5).trans rfl
                                       have hcz146_6 : wc.cell? ⟨gb150, 6, none⟩ = some (.int .u32 0) := (blk_cell BK150.out 6).trans rfl
                                       have hcz146_7 : wc.cell? ⟨gb150, 7, none⟩ = some (.string (⟨#[]⟩ : ByteArray)) := (blk_cell BK150.out 7).trans rfl
                                       have hfz146_0 := blk_frozen BK150.out 0
                                       have hfz146_1 := blk_frozen BK150.out 1
                                       have hfz146_2 := blk_frozen BK150.out 2
                                       have hfz146_3 := blk_frozen BK150.out 3
                                       have hfz146_4 := blk_frozen BK150.out 4
                                       have hfz146_5 := blk_frozen BK150.out 5
                                       have hfz146_6 := blk_frozen BK150.out 6
                                       have hfz146_7 := blk_frozen BK150.out 7
                                       have p161 : 0 ≤ (x11_2 : Int) := of_decide_eq_true (by first | (with_reducible assumption) | assumption)
                                       have q161 : x11_2 < (t134.length : Int) := of_decide_eq_true (by first | (with_reducible assumption) | assumption)
                                       obtain ⟨ad161, e161, hx161_0⟩ := Kd.at_string (Kd.R_reads' HO_4.out).2.2 x11_2 p161 q161
                                       obtain rfl : ad143 = ad161 := (by injection e161)
                                       have hn161_0 : ad143.block ≠ gb150 := Kd.own_blk (Kd.R_ne HO_4.out BK150.out (by decide))
                                       replace hx161_0 := (cell_far (p := ⟨gb150, 0, none⟩) (by first | (rw [add_block]; exact hn161_0) | (show (Addr.add _ _).block ≠ _; rw [add_block]; exact hn161_0) | exact hn161_0) (.int .i64 4)).trans hx161_0
                                       (try have hy161_0 := fun (n_ : Nat) => (show (((wc.drewN n_).setCell ⟨gb150, 0, none⟩ (.int .i64 4))).cell? _ = some _ from hx161_0))
                                       clear hn161_0
                                       replace p161 := eq_true p161
                                       replace q161 := eq_true q161
                                       have hnb147 := NB133_132.out
                                       have hnc147 := NB132_133.out
                                       have hcz148_0 : wc.cell? ⟨gb133, 0, none⟩ = some (.int .i64 0) := (blk_cell BK133.out 0).trans rfl
                                       have hcz148_1 : wc.cell? ⟨gb133, 1, none⟩ = some (.int .i64 0) := (blk_cell BK133.out 1).trans rfl
                                       have hcz148_2 : wc.cell? ⟨gb133, 2, none⟩ = some (.int .i64 0) := (blk_cell BK133.out 2).trans rfl
                                       have hcz148_3 : wc.cell? ⟨gb133, 3, none⟩ = some (.int .i64 0) := (blk_cell BK133.out 3).trans rfl
                                       have hcz148_4 : wc.cell? ⟨gb133, 4, none⟩ = some (.int .i64 0) := (blk_cell BK133.out 4).trans rfl
                                       have hcz148_5 : wc.cell? ⟨gb133, 5, none⟩ = some (.int .i64 0) := (blk_cell BK133.out 5).trans rfl
                                       have hcz148_6 : wc.cell? ⟨gb133, 6, none⟩ = some (.int .u32 0) := (blk_cell BK133.out 6).trans rfl
                                       have hcz148_7 : wc.cell? ⟨gb133, 7, none⟩ = some (.string (⟨#[]⟩ : ByteArray)) := (blk_cell BK133.out 7).trans rfl
                                       have hfz148_0 := blk_frozen BK133.out 0
                                       have hfz148_1 := blk_frozen BK133.out 1
                                       have hfz148_2 := blk_frozen BK133.out 2
                                       have hfz148_3 := blk_frozen BK133.out 3
                                       have hfz148_4 := blk_frozen BK133.out 4
                                       have hfz148_5 := blk_frozen BK133.out 5
                                       have hfz148_6 := blk_frozen BK133.out 6
                                       have hfz148_7 := blk_frozen BK133.out 7
                                       have hcz149_0 : wc.cell? ⟨gb132, 0, none⟩ = some (.int .i64 x133000_2) := (blk_cell BK132.out 0).trans rfl
                                       have hcz149_1 : wc.cell? ⟨gb132, 1, none⟩ = some (.int .i64 x133001_2) := (blk_cell BK132.out 1).trans rfl
                                       have hcz149_2 : wc.cell? ⟨gb132, 2, none⟩ = some (.int .i64 x133002_2) := (blk_cell BK132.out 2).trans rfl
                                       have hcz149_3 : wc.cell? ⟨gb132, 3, none⟩ = some (.int .i64 x133003_2) := (blk_cell BK132.out 3).trans rfl
                                       have hcz149_4 : wc.cell? ⟨gb132, 4, none⟩ = some (.int .i64 x133004_2) := (blk_cell BK132.out 4).trans rfl
                                       have hcz149_5 : wc.cell? ⟨gb132, 5, none⟩ = some (.int .i64 x133005_2) := (blk_cell BK132.out 5).trans rfl
                                       have hcz149_6 : wc.cell? ⟨gb132, 6, none⟩ = some (.int .u32 x133006_2) := (blk_cell BK132.out 6).trans rfl
                                       have hcz149_7 : wc.cell? ⟨gb132, 7, none⟩ = some (.string x133007_2) := (blk_cell BK132.out 7).trans rfl
                                       have hfz149_0 := blk_frozen BK132.out 0
                                       have hfz149_1 := blk_frozen BK132.out 1
                                       have hfz149_2 := blk_frozen BK132.out 2
                                       have hfz149_3 := blk_frozen BK132.out 3
                                       have hfz149_4 := blk_frozen BK132.out 4
                                       have hfz149_5 := blk_frozen BK132.out 5
                                       have hfz149_6 := blk_frozen BK132.out 6
                                       have hfz149_7 := blk_frozen BK132.out 7
                                       go_wp2
                                       repeat (go_quiet (fail); try go_wp2)
                                       refine bodyPost_ret (results_cell_row rfl _ _ gb132 33 #[.int .i64 0, .int .i64 0, .int .i64 0, .int .i64 0, .int .i64 0, .int .i64 0, .int .u32 0, .string (⟨#[]⟩ : ByteArray)] (0, 0) _ rfl (by (with_reducible repeat (first | refine blk_drewN ?_ _ | refine blk_drew ?_ | refine blk_alloc ?_ _)); refine blk_put (cs := #[.int .i64 0, .int .i64 0, .int .i64 0, .int .i64 0, .int .i64 0, .int .i64 0, .int .u32 0, .string x133007_2]) ?_ 7 _ rfl; refine blk_put (cs := #[.int .i64 0, .int .i64 0, .int .i64 0, .int .i64 0, .int .i64 0, .int .i64 0, .int .u32 x133006_2, .string x133007_2]) ?_ 6 _ rfl; refine blk_put (cs := #[.int .i64 0, .int .i64 0, .int .i64 0, .int .i64 0, .int .i64 0, .int .i64 x133005_2, .int .u32 x133006_2, .string x133007_2]) ?_ 5 _ rfl; refine blk_put (cs := #[.int .i64 0, .int .i64 0, .int .i64 0, .int .i64 0, .int .i64 x133004_2, .int .i64 x133005_2, .int .u32 x133006_2, .string x133007_2]) ?_ 4 _ rfl; refine blk_put (cs := #[.int .i64 0, .int .i64 0, .int .i64 0, .int .i64 x133003_2, .int .i64 x133004_2, .int .i64 x133005_2, .int .u32 x133006_2, .string x133007_2]) ?_ 3 _ rfl; refine blk_put (cs := #[.int .i64 0, .int .i64 0, .int .i64 x133002_2, .int .i64 x133003_2, .int .i64 x133004_2, .int .i64 x133005_2, .int .u32 x133006_2, .string x133007_2]) ?_ 2 _ rfl; refine blk_put (cs := #[.int .i64 0, .int .i64 x133001_2, .int .i64 x133002_2, .int .i64 x133003_2, .int .i64 x133004_2, .int .i64 x133005_2, .int .u32 x133006_2, .string x133007_2]) ?_ 1 _ rfl; refine blk_put (cs := #[.int .i64 x133000_2, .int .i64 x133001_2, .int .i64 x133002_2, .int .i64 x133003_2, .int .i64 x133004_2, .int .i64 x133005_2, .int .u32 x133006_2, .string x133007_2]) ?_ 0 _ rfl; (with_reducible repeat (first | refine blk_drewN ?_ _ | refine blk_drew ?_ | refine blk_alloc ?_ _)); refine blk_far ?_ NB132_150.out _; (with_reducible repeat (first | refine blk_drewN ?_ _ | refine blk_drew ?_ | refine blk_alloc ?_ _)); refine blk_far ?_ NB132_150.out _; (with_reducible repeat (first | refine blk_drewN ?_ _ | refine blk_drew ?_ | refine blk_alloc ?_ _)); exact BK132.out) Tryd.underlying33 rfl (by kernel_rfl)) rfl ?_
                                       exact ⟨by first | rfl | (simp [errW_none, errW_some] <;> rfl) | (simp [*, errW_none, errW_some] <;> rfl), by repeat (first | (with_reducible first | exact HB.out | apply below_alloc | apply pw_below_drewN | apply below_drew1 | refine below_set ?_ GE132.out | refine below_set ?_ GE133.out | refine below_set ?_ GE150.out) | exact HB.out)⟩
                                   · rw [if_neg c137] at H
                                     exact absurd H (by simp)
                                 · rw [if_neg c136] at H
                                   exact absurd H (by simp)
                               · replace c135 := Bool.eq_false_iff.mpr c135
                                 subst c135
                                 have H1 : (some (0, 0, 0, 0, 0, 0, 0, (⟨#[]⟩ : ByteArray))) = some (r1, r2, r3, r4, r5, r6, r7, r8) := by rw [if_neg (show ¬ (false = true) by decide)] at H; exact H
                                 clear H
                                 have H := H1
                                 clear H1
                                 simp only [Option.some.injEq, Prod.mk.injEq] at H
                                 obtain ⟨rfl, rfl, rfl, rfl, rfl, rfl, rfl, rfl⟩ := H
                                 have hnb150 := NB133_132.out
                                 have hnc150 := NB132_133.out
                                 have hnb151 := NB133_150.out
                                 have hnc151 := NB150_133.out
                                 have hcz152_0 : wc.cell? ⟨gb133, 0, none⟩ = some (.int .i64 0) := (blk_cell BK133.out 0).trans rfl
                                 have hcz152_1 : wc.cell? ⟨gb133, 1, none⟩ = some (.int .i64 0) := (blk_cell BK133.out 1).trans rfl
                                 have hcz152_2 : wc.cell? ⟨gb133, 2, none⟩ = some (.int .i64 0) := (blk_cell BK133.out 2).trans rfl
                                 have hcz152_3 : wc.cell? ⟨gb133, 3, none⟩ = some (.int .i64 0) := (blk_cell BK133.out 3).trans rfl
                                 have hcz152_4 : wc.cell? ⟨gb133, 4, none⟩ = some (.int .i64 0) := (blk_cell BK133.out 4).trans rfl
                                 have hcz152_5 : wc.cell? ⟨gb133, 5, none⟩ = some (.int .i64 0) := (blk_cell BK133.out 5).trans rfl
                                 have hcz152_6 : wc.cell? ⟨gb133, 6, none⟩ = some (.int .u32 0) := (blk_cell BK133.out 6).trans rfl
                                 have hcz152_7 : wc.cell? ⟨gb133, 7, none⟩ = some (.string (⟨#[]⟩ : ByteArray)) := (blk_cell BK133.out 7).trans rfl
                                 have hfz152_0 := blk_frozen BK133.out 0
                                 have hfz152_1 := blk_frozen BK133.out 1
                                 have hfz152_2 := blk_frozen BK133.out 2
                                 have hfz152_3 := blk_frozen BK133.out 3
                                 have hfz152_4 := blk_frozen BK133.out 4
                                 have hfz152_5 := blk_frozen BK133.out 5
                                 have hfz152_6 := blk_frozen BK133.out 6
                                 have hfz152_7 := blk_frozen BK133.out 7
                                 have hnb153 := NB132_150.out
                                 have hnc153 := NB150_132.out
                                 have hcz154_0 : wc.cell? ⟨gb132, 0, none⟩ = some (.int .i64 x133000_2) := (blk_cell BK132.out 0).trans rfl
                                 have hcz154_1 : wc.cell? ⟨gb132, 1, none⟩ = some (.int .i64 x133001_2) := (blk_cell BK132.out 1).trans rfl
                                 have hcz154_2 : wc.cell? ⟨gb132, 2, none⟩ = some (.int .i64 x133002_2) := (blk_cell BK132.out 2).trans rfl
                                 have hcz154_3 : wc.cell? ⟨gb132, 3, none⟩ = some (.int .i64 x133003_2) := (blk_cell BK132.out 3).trans rfl
                                 have hcz154_4 : wc.cell? ⟨gb132, 4, none⟩ = some (.int .i64 x133004_2) := (blk_cell BK132.out 4).trans rfl
                                 have hcz154_5 : wc.cell? ⟨gb132, 5, none⟩ = some (.int .i64 x133005_2) := (blk_cell BK132.out 5).trans rfl
                                 have hcz154_6 : wc.cell? ⟨gb132, 6, none⟩ = some (.int .u32 x133006_2) := (blk_cell BK132.out 6).trans rfl
                                 have hcz154_7 : wc.cell? ⟨gb132, 7, none⟩ = some (.string x133007_2) := (blk_cell BK132.out 7).trans rfl
                                 have hfz154_0 := blk_frozen BK132.out 0
                                 have hfz154_1 := blk_frozen BK132.out 1
                                 have hfz154_2 := blk_frozen BK132.out 2
                                 have hfz154_3 := blk_frozen BK132.out 3
                                 have hfz154_4 := blk_frozen BK132.out 4
                                 have hfz154_5 := blk_frozen BK132.out 5
                                 have hfz154_6 := blk_frozen BK132.out 6
                                 have hfz154_7 := blk_frozen BK132.out 7
                                 go_wp2
                                 repeat (go_quiet (fail); try go_wp2)
                                 refine bodyPost_ret (results_cell_row rfl _ _ gb132 33 #[.int .i64 0, .int .i64 0, .int .i64 0, .int .i64 0, .int .i64 0, .int .i64 0, .int .u32 0, .string (⟨#[]⟩ : ByteArray)] (0, 0) _ rfl (by (with_reducible repeat (first | refine blk_drewN ?_ _ | refine blk_drew ?_ | refine blk_alloc ?_ _)); refine blk_put (cs := #[.int .i64 0, .int .i64 0, .int .i64 0, .int .i64 0, .int .i64 0, .int .i64 0, .int .u32 0, .string x133007_2]) ?_ 7 _ rfl; refine blk_put (cs := #[.int .i64 0, .int .i64 0, .int .i64 0, .int .i64 0, .int .i64 0, .int .i64 0, .int .u32 x133006_2, .string x133007_2]) ?_ 6 _ rfl; refine blk_put (cs := #[.int .i64 0, .int .i64 0, .int .i64 0, .int .i64 0, .int .i64 0, .int .i64 x133005_2, .int .u32 x133006_2, .string x133007_2]) ?_ 5 _ rfl; refine blk_put (cs := #[.int .i64 0, .int .i64 0, .int .i64 0, .int .i64 0, .int .i64 x133004_2, .int .i64 x133005_2, .int .u32 x133006_2, .string x133007_2]) ?_ 4 _ rfl; refine blk_put (cs := #[.int .i64 0, .int .i64 0, .int .i64 0, .int .i64 x133003_2, .int .i64 x133004_2, .int .i64 x133005_2, .int .u32 x133006_2, .string x133007_2]) ?_ 3 _ rfl; refine blk_put (cs := #[.int .i64 0, .int .i64 0, .int .i64 x133002_2, .int .i64 x133003_2, .int .i64 x133004_2, .int .i64 x133005_2, .int .u32 x133006_2, .string x133007_2]) ?_ 2 _ rfl; refine blk_put (cs := #[.int .i64 0, .int .i64 x133001_2, .int .i64 x133002_2, .int .i64 x133003_2, .int .i64 x133004_2, .int .i64 x133005_2, .int .u32 x133006_2, .string x133007_2]) ?_ 1 _ rfl; refine blk_put (cs := #[.int .i64 x133000_2, .int .i64 x133001_2, .int .i64 x133002_2, .int .i64 x133003_2, .int .i64 x133004_2, .int .i64 x133005_2, .int .u32 x133006_2, .string x133007_2]) ?_ 0 _ rfl; (with_reducible repeat (first | refine blk_drewN ?_ _ | refine blk_drew ?_ | refine blk_alloc ?_ _)); exact BK132.out) Tryd.underlying33 rfl (by kernel_rfl)) rfl ?_
                                 exact ⟨by first | rfl | (simp [errW_none, errW_some] <;> rfl) | (simp [*, errW_none, errW_some] <;> rfl), by repeat (first | (with_reducible first | exact HB.out | apply below_alloc | apply pw_below_drewN | apply below_drew1 | refine below_set ?_ GE132.out | refine below_set ?_ GE133.out | refine below_set ?_ GE150.out) | exact HB.out)⟩
                       · rw [if_neg c112] at H
                         exact absurd H (by simp)
                     · rw [if_neg c111] at H
                       exact absurd H (by simp)
                 · rw [if_neg c104] at H
                   have c104b0 : ((Int.tmod (wrap64 (Int.tdiv t149 8)) 2) == 1) = false := beq_eq_false_iff_ne.mpr c104
                   have c104b1 : ((Int.tmod (wrap64 (Int.tdiv t149 8)) 2) != 1) = true := bne_iff_ne.mpr c104
                   by_cases c155 : x11_2 = (t134.length : Int)
                   · rw [if_pos c155] at H
                     have c155b0 : (x11_2 == (t134.length : Int)) = true := beq_iff_eq.mpr c155
                     have c155b1 : (x11_2 != (t134.length : Int)) = false := bne_eq_false_iff_eq.mpr c155
                     clear c155
                     simp only [Option.some.injEq, Prod.mk.injEq] at H
                     obtain ⟨rfl, rfl, rfl, rfl, rfl, rfl, rfl, rfl⟩ := H
                     have hnb156 := NB150_132.out
                     have hnc156 := NB132_150.out
                     have hnb157 := NB150_133.out
                     have hnc157 := NB133_150.out
                     have hcz158_0 : wr.cell? ⟨gb150, 0, none⟩ = some (.int .i64 3) := (blk_cell BK150.out 0).trans rfl
                     have hcz158_1 : wr.cell? ⟨gb150, 1, none⟩ = some (.int .i64 t148) := (blk_cell BK150.out 1).trans rfl
                     have hcz158_2 : wr.cell? ⟨gb150, 2, none⟩ = some (.int .i64 x151002_2) := (blk_cell BK150.out 2).trans rfl
                     have hcz158_3 : wr.cell? ⟨gb150, 3, none⟩ = some (.int .i64 x151003_2) := (blk_cell BK150.out 3).trans rfl
                     have hcz158_4 : wr.cell? ⟨gb150, 4, none⟩ = some (.int .i64 x151004_2) := (blk_cell BK150.out 4).trans rfl
                     have hcz158_5 : wr.cell? ⟨gb150, 5, none⟩ = some (.int .i64 0) := (blk_cell BK150.out 5).trans rfl
                     have hcz158_6 : wr.cell? ⟨gb150, 6, none⟩ = some (.int .u32 0) := (blk_cell BK150.out 6).trans rfl
                     have hcz158_7 : wr.cell? ⟨gb150, 7, none⟩ = some (.string (⟨#[]⟩ : ByteArray)) := (blk_cell BK150.out 7).trans rfl
                     have hfz158_0 := blk_frozen BK150.out 0
                     have hfz158_1 := blk_frozen BK150.out 1
                     have hfz158_2 := blk_frozen BK150.out 2
                     have hfz158_3 := blk_frozen BK150.out 3
                     have hfz158_4 := blk_frozen BK150.out 4
                     have hfz158_5 := blk_frozen BK150.out 5
                     have hfz158_6 := blk_frozen BK150.out 6
                     have hfz158_7 := blk_frozen BK150.out 7
                     have hnb159 := NB132_133.out
                     have hnc159 := NB133_132.out
                     have hcz160_0 : wr.cell? ⟨gb132, 0, none⟩ = some (.int .i64 x133000_2) := (blk_cell BK132.out 0).trans rfl
                     have hcz160_1 : wr.cell? ⟨gb132, 1, none⟩ = some (.int .i64 x133001_2) := (blk_cell BK132.out 1).trans rfl
                     have hcz160_2 : wr.cell? ⟨gb132, 2, none⟩ = some (.int .i64 x133002_2) := (blk_cell BK132.out 2).trans rfl
                     have hcz160_3 : wr.cell? ⟨gb132, 3, none⟩ = some (.int .i64 x133003_2) := (blk_cell BK132.out 3).trans rfl
                     have hcz160_4 : wr.cell? ⟨gb132, 4, none⟩ = some (.int .i64 x133004_2) := (blk_cell BK132.out 4).trans rfl
                     have hcz160_5 : wr.cell? ⟨gb132, 5, none⟩ = some (.int .i64 x133005_2) := (blk_cell BK132.out 5).trans rfl
                     have hcz160_6 : wr.cell? ⟨gb132, 6, none⟩ = some (.int .u32 x133006_2) := (blk_cell BK132.out 6).trans rfl
                     have hcz160_7 : wr.cell? ⟨gb132, 7, none⟩ = some (.string x133007_2) := (blk_cell BK132.out 7).trans rfl
                     have hfz160_0 := blk_frozen BK132.out 0
                     have hfz160_1 := blk_frozen BK132.out 1
                     have hfz160_2 := blk_frozen BK132.out 2
                     have hfz160_3 := blk_frozen BK132.out 3
                     have hfz160_4 := blk_frozen BK132.out 4
                     have hfz160_5 := blk_frozen BK132.out 5
                     have hfz160_6 := blk_frozen BK132.out 6
                     have hfz160_7 := blk_frozen BK132.out 7
                     go_wp2
                     repeat (go_quiet (fail); try go_wp2)
                     refine bodyPost_ret (results_cell_row rfl _ _ gb132 33 #[.int .i64 3, .int .i64 t148, .int .i64 x151002_2, .int .i64 x151003_2, .int .i64 x151004_2, .int .i64 0, .int .u32 0, .string (⟨#[]⟩ : ByteArray)] (0, 0) _ rfl (by (with_reducible repeat (first | refine blk_drewN ?_ _ | refine blk_drew ?_ | refine blk_alloc ?_ _)); refine blk_put (cs := #[.int .i64 3, .int .i64 t148, .int .i64 x151002_2, .int .i64 x151003_2, .int .i64 x151004_2, .int .i64 0, .int .u32 0, .string x133007_2]) ?_ 7 _ rfl; refine blk_put (cs := #[.int .i64 3, .int .i64 t148, .int .i64 x151002_2, .int .i64 x151003_2, .int .i64 x151004_2, .int .i64 0, .int .u32 x133006_2, .string x133007_2]) ?_ 6 _ rfl; refine blk_put (cs := #[.int .i64 3, .int .i64 t148, .int .i64 x151002_2, .int .i64 x151003_2, .int .i64 x151004_2, .int .i64 x133005_2, .int .u32 x133006_2, .string x133007_2]) ?_ 5 _ rfl; refine blk_put (cs := #[.int .i64 3, .int .i64 t148, .int .i64 x151002_2, .int .i64 x151003_2, .int .i64 x133004_2, .int .i64 x133005_2, .int .u32 x133006_2, .string x133007_2]) ?_ 4 _ rfl; refine blk_put (cs := #[.int .i64 3, .int .i64 t148, .int .i64 x151002_2, .int .i64 x133003_2, .int .i64 x133004_2, .int .i64 x133005_2, .int .u32 x133006_2, .string x133007_2]) ?_ 3 _ rfl; refine blk_put (cs := #[.int .i64 3, .int .i64 t148, .int .i64 x133002_2, .int .i64 x133003_2, .int .i64 x133004_2, .int .i64 x133005_2, .int .u32 x133006_2, .string x133007_2]) ?_ 2 _ rfl; refine blk_put (cs := #[.int .i64 3, .int .i64 x133001_2, .int .i64 x133002_2, .int .i64 x133003_2, .int .i64 x133004_2, .int .i64 x133005_2, .int .u32 x133006_2, .string x133007_2]) ?_ 1 _ rfl; refine blk_put (cs := #[.int .i64 x133000_2, .int .i64 x133001_2, .int .i64 x133002_2, .int .i64 x133003_2, .int .i64 x133004_2, .int .i64 x133005_2, .int .u32 x133006_2, .string x133007_2]) ?_ 0 _ rfl; (with_reducible repeat (first | refine blk_drewN ?_ _ | refine blk_drew ?_ | refine blk_alloc ?_ _)); exact BK132.out) Tryd.underlying33 rfl (by kernel_rfl)) rfl ?_
                     exact ⟨by first | rfl | (simp [errW_none, errW_some] <;> rfl) | (simp [*, errW_none, errW_some] <;> rfl), by repeat (first | (with_reducible first | exact HB.out | apply below_alloc | apply pw_below_drewN | apply below_drew1 | refine below_set ?_ GE132.out | refine below_set ?_ GE133.out | refine below_set ?_ GE150.out) | exact HB.out)⟩
                   · rw [if_neg c155] at H
                     have c155b0 : (x11_2 == (t134.length : Int)) = false := beq_eq_false_iff_ne.mpr c155
                     have c155b1 : (x11_2 != (t134.length : Int)) = true := bne_iff_ne.mpr c155
                     simp only [Option.some.injEq, Prod.mk.injEq] at H
                     obtain ⟨rfl, rfl, rfl, rfl, rfl, rfl, rfl, rfl⟩ := H
                     have hnb161 := NB133_132.out
                     have hnc161 := NB132_133.out
                     have hnb162 := NB133_150.out
                     have hnc162 := NB150_133.out
                     have hcz163_0 : wr.cell? ⟨gb133, 0, none⟩ = some (.int .i64 0) := (blk_cell BK133.out 0).trans rfl
                     have hcz163_1 : wr.cell? ⟨gb133, 1, none⟩ = some (.int .i64 0) := (blk_cell BK133.out 1).trans rfl
                     have hcz163_2 : wr.cell? ⟨gb133, 2, none⟩ = some (.int .i64 0) := (blk_cell BK133.out 2).trans rfl
                     have hcz163_3 : wr.cell? ⟨gb133, 3, none⟩ = some (.int .i64 0) := (blk_cell BK133.out 3).trans rfl
                     have hcz163_4 : wr.cell? ⟨gb133, 4, none⟩ = some (.int .i64 0) := (blk_cell BK133.out 4).trans rfl
                     have hcz163_5 : wr.cell? ⟨gb133, 5, none⟩ = some (.int .i64 0) := (blk_cell BK133.out 5).trans rfl
                     have hcz163_6 : wr.cell? ⟨gb133, 6, none⟩ = some (.int .u32 0) := (blk_cell BK133.out 6).trans rfl
                     have hcz163_7 : wr.cell? ⟨gb133, 7, none⟩ = some (.string (⟨#[]⟩ : ByteArray)) := (blk_cell BK133.out 7).trans rfl
                     have hfz163_0 := blk_frozen BK133.out 0
                     have hfz163_1 := blk_frozen BK133.out 1
                     have hfz163_2 := blk_frozen BK133.out 2
                     have hfz163_3 := blk_frozen BK133.out 3
                     have hfz163_4 := blk_frozen BK133.out 4
                     have hfz163_5 := blk_frozen BK133.out 5
                     have hfz163_6 := blk_frozen BK133.out 6
                     have hfz163_7 := blk_frozen BK133.out 7
                     have hnb164 := NB132_150.out
                     have hnc164 := NB150_132.out
                     have hcz165_0 : wr.cell? ⟨gb132, 0, none⟩ = some (.int .i64 x133000_2) := (blk_cell BK132.out 0).trans rfl
                     have hcz165_1 : wr.cell? ⟨gb132, 1, none⟩ = some (.int .i64 x133001_2) := (blk_cell BK132.out 1).trans rfl
                     have hcz165_2 : wr.cell? ⟨gb132, 2, none⟩ = some (.int .i64 x133002_2) := (blk_cell BK132.out 2).trans rfl
                     have hcz165_3 : wr.cell? ⟨gb132, 3, none⟩ = some (.int .i64 x133003_2) := (blk_cell BK132.out 3).trans rfl
                     have hcz165_4 : wr.cell? ⟨gb132, 4, none⟩ = some (.int .i64 x133004_2) := (blk_cell BK132.out 4).trans rfl
                     have hcz165_5 : wr.cell? ⟨gb132, 5, none⟩ = some (.int .i64 x133005_2) := (blk_cell BK132.out 5).trans rfl
                     have hcz165_6 : wr.cell? ⟨gb132, 6, none⟩ = some (.int .u32 x133006_2) := (blk_cell BK132.out 6).trans rfl
                     have hcz165_7 : wr.cell? ⟨gb132, 7, none⟩ = some (.string x133007_2) := (blk_cell BK132.out 7).trans rfl
                     have hfz165_0 := blk_frozen BK132.out 0
                     have hfz165_1 := blk_frozen BK132.out 1
                     have hfz165_2 := blk_frozen BK132.out 2
                     have hfz165_3 := blk_frozen BK132.out 3
                     have hfz165_4 := blk_frozen BK132.out 4
                     have hfz165_5 := blk_frozen BK132.out 5
                     have hfz165_6 := blk_frozen BK132.out 6
                     have hfz165_7 := blk_frozen BK132.out 7
                     go_wp2
                     repeat (go_quiet (fail); try go_wp2)
                     refine bodyPost_ret (results_cell_row rfl _ _ gb132 33 #[.int .i64 0, .int .i64 0, .int .i64 0, .int .i64 0, .int .i64 0, .int .i64 0, .int .u32 0, .string (⟨#[]⟩ : ByteArray)] (0, 0) _ rfl (by (with_reducible repeat (first | refine blk_drewN ?_ _ | refine blk_drew ?_ | refine blk_alloc ?_ _)); refine blk_put (cs := #[.int .i64 0, .int .i64 0, .int .i64 0, .int .i64 0, .int .i64 0, .int .i64 0, .int .u32 0, .string x133007_2]) ?_ 7 _ rfl; refine blk_put (cs := #[.int .i64 0, .int .i64 0, .int .i64 0, .int .i64 0, .int .i64 0, .int .i64 0, .int .u32 x133006_2, .string x133007_2]) ?_ 6 _ rfl; refine blk_put (cs := #[.int .i64 0, .int .i64 0, .int .i64 0, .int .i64 0, .int .i64 0, .int .i64 x133005_2, .int .u32 x133006_2, .string x133007_2]) ?_ 5 _ rfl; refine blk_put (cs := #[.int .i64 0, .int .i64 0, .int .i64 0, .int .i64 0, .int .i64 x133004_2, .int .i64 x133005_2, .int .u32 x133006_2, .string x133007_2]) ?_ 4 _ rfl; refine blk_put (cs := #[.int .i64 0, .int .i64 0, .int .i64 0, .int .i64 x133003_2, .int .i64 x133004_2, .int .i64 x133005_2, .int .u32 x133006_2, .string x133007_2]) ?_ 3 _ rfl; refine blk_put (cs := #[.int .i64 0, .int .i64 0, .int .i64 x133002_2, .int .i64 x133003_2, .int .i64 x133004_2, .int .i64 x133005_2, .int .u32 x133006_2, .string x133007_2]) ?_ 2 _ rfl; refine blk_put (cs := #[.int .i64 0, .int .i64 x133001_2, .int .i64 x133002_2, .int .i64 x133003_2, .int .i64 x133004_2, .int .i64 x133005_2, .int .u32 x133006_2, .string x133007_2]) ?_ 1 _ rfl; refine blk_put (cs := #[.int .i64 x133000_2, .int .i64 x133001_2, .int .i64 x133002_2, .int .i64 x133003_2, .int .i64 x133004_2, .int .i64 x133005_2, .int .u32 x133006_2, .string x133007_2]) ?_ 0 _ rfl; (with_reducible repeat (first | refine blk_drewN ?_ _ | refine blk_drew ?_ | refine blk_alloc ?_ _)); exact BK132.out) Tryd.underlying33 rfl (by kernel_rfl)) rfl ?_
                     exact ⟨by first | rfl | (simp [errW_none, errW_some] <;> rfl) | (simp [*, errW_none, errW_some] <;> rfl), by repeat (first | (with_reducible first | exact HB.out | apply below_alloc | apply pw_below_drewN | apply below_drew1 | refine below_set ?_ GE132.out | refine below_set ?_ GE133.out | refine below_set ?_ GE150.out) | exact HB.out)⟩
       · rw [if_neg c39] at H
         exact absurd H (by simp)

end Go.Proofs.YtaophlekfepkgaaDoor.PFnExactAssemble
