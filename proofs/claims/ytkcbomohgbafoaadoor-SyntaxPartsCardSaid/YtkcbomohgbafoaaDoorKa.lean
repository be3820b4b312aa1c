/- The seat's functions are those of the instruction set. -/
import Derived.Test.YtkcbomohgbafoaaDoorIa
import Derived.Test.YtkcbomohgbafoaaDoorEf
import Derived.KernelRfl
import Derived.Test.YtkcbomohgbafoaaDoorChecked
namespace Go.Proofs.YtkcbomohgbafoaaDoor
open Go
def seat : Seat := { nm := fun f => (#[0, 1, 2, 3, 4, 5, 6, 7, 8, 9, 10, 11, 12, 13, 14, 15, 16, 17, 18, 19, 20, 21, 22, 23, 24, 25, 26, 27, 28, 29, 30, 31, 32, 33, 34, 35, 36, 37, 38, 39, 40, 41, 42, 43, 44, 45, 46, 47, 48, 49, 50, 51, 52, 53, 54, 55, 56, 57, 58, 59, 60, 61, 62, 63, 64, 65, 66, 67, 68, 69, 70, 71, 72, 73, 74, 75, 76, 77, 78, 79, 80, 81, 82, 83, 84, 85, 86, 87, 88, 89, 90, 91, 92, 93, 94, 95, 96, 97, 98, 99, 100, 101, 102, 103, 104, 105, 106, 107, 108, 109, 110, 111, 112, 113, 114, 115, 116, 117, 118, 119, 120, 121, 122, 123, 124, 125, 126, 127, 128, 129, 130, 131, 132, 133, 134, 135, 136, 137, 138, 139, 140, 141, 142, 143, 144, 145, 146, 147, 148, 149, 150, 151, 152, 153, 154, 155, 156, 157, 158] : Array Nat).getD f 0, fi := fun c => (#[0, 1, 2, 3, 4, 5, 6, 7, 8, 9, 10, 11, 12, 13, 14, 15, 16, 17, 18, 19, 20, 21, 22, 23, 24, 25, 26, 27, 28, 29, 30, 31, 32, 33, 34, 35, 36, 37, 38, 39, 40, 41, 42, 43, 44, 45, 46, 47, 48, 49, 50, 51, 52, 53, 54, 55, 56, 57, 58, 59, 60, 61, 62, 63, 64, 65, 66, 67, 68, 69, 70, 71, 72, 73, 74, 75, 76, 77, 78, 79, 80, 81, 82, 83, 84, 85, 86, 87, 88, 89, 90, 91, 92, 93, 94, 95, 96, 97, 98, 99, 100, 101, 102, 103, 104, 105, 106, 107, 108, 109, 110, 111, 112, 113, 114, 115, 116, 117, 118, 119, 120, 121, 122, 123, 124, 125, 126, 127, 128, 129, 130, 131, 132, 133, 134, 135, 136, 137, 138, 139, 140, 141, 142, 143, 144, 145, 146, 147, 148, 149, 150, 151, 152, 153, 154, 155, 156, 157, 158] : Array Nat).getD c 0, tc := fun t => (#[0, 1, 2, 3, 4, 5, 6, 7, 8, 9, 10, 11, 12, 13, 14, 15, 16, 17, 18, 19, 20, 21, 22, 23, 24, 25, 26, 27, 28, 29, 30, 31, 32, 33, 34, 35, 36, 37, 38, 39, 40, 41, 42, 43, 44, 45, 46, 47, 48, 49, 50, 51, 52, 53, 54, 55, 56, 57, 58, 59, 60, 61, 62, 63, 64, 65, 66, 67, 68, 69, 70, 71, 72, 73, 74, 75, 76, 77, 78, 79, 80, 81, 82, 83, 84, 85, 86, 87, 88, 89, 90, 91, 92, 93, 94, 95, 96, 97, 98, 99, 100, 101, 102, 103, 104, 105, 106, 107, 108, 109, 110, 111, 112, 113, 114, 115, 116, 117, 118, 119, 120, 121, 122, 123, 124, 125, 126, 127, 128, 129, 130, 131, 132, 133, 134, 135, 136, 137, 138, 139, 140, 141, 142, 143, 144, 145, 146, 147, 148, 149, 150, 151, 152, 153, 154, 155, 156, 157, 158, 159, 160, 161, 162, 163, 164, 165, 166, 167, 168, 169, 170, 171, 172, 173, 174, 175, 176, 177, 178, 179, 180, 181, 182] : Array Nat).getD t 0, ty := fun c => (#[0, 1, 2, 3, 4, 5, 6, 7, 8, 9, 10, 11, 12, 13, 14, 15, 16, 17, 18, 19, 20, 21, 22, 23, 24, 25, 26, 27, 28, 29, 30, 31, 32, 33, 34, 35, 36, 37, 38, 39, 40, 41, 42, 43, 44, 45, 46, 47, 48, 49, 50, 51, 52, 53, 54, 55, 56, 57, 58, 59, 60, 61, 62, 63, 64, 65, 66, 67, 68, 69, 70, 71, 72, 73, 74, 75, 76, 77, 78, 79, 80, 81, 82, 83, 84, 85, 86, 87, 88, 89, 90, 91, 92, 93, 94, 95, 96, 97, 98, 99, 100, 101, 102, 103, 104, 105, 106, 107, 108, 109, 110, 111, 112, 113, 114, 115, 116, 117, 118, 119, 120, 121, 122, 123, 124, 125, 126, 127, 128, 129, 130, 131, 132, 133, 134, 135, 136, 137, 138, 139, 140, 141, 142, 143, 144, 145, 146, 147, 148, 149, 150, 151, 152, 153, 154, 155, 156, 157, 158, 159, 160, 161, 162, 163, 164, 165, 166, 167, 168, 169, 170, 171, 172, 173, 174, 175, 176, 177, 178, 179, 180, 181, 182] : Array Nat).getD c 0 }
theorem k3 : cFunc Tryd.prog seat (lvF F3) Tryd.f3 = some F3 := by kernel_rfl
theorem n3 : (Tryd.f3.name == "runtime.NumGoroutine") = false := by kernel_rfl
theorem i3 : seat.fi 3 = 3 := by kernel_rfl
theorem l3 : Tryd.prog.funcs[seat.fi 3]? = some Tryd.f3 := by rw [i3]; exact Tryd.func3
theorem k8 : cFunc Tryd.prog seat (lvF F8) Tryd.f8 = some F8 := by kernel_rfl
theorem n8 : (Tryd.f8.name == "runtime.NumGoroutine") = false := by kernel_rfl
theorem i8 : seat.fi 8 = 8 := by kernel_rfl
theorem l8 : Tryd.prog.funcs[seat.fi 8]? = some Tryd.f8 := by rw [i8]; exact Tryd.func8
theorem k9 : cFunc Tryd.prog seat (lvF F9) Tryd.f9 = some F9 := by kernel_rfl
theorem n9 : (Tryd.f9.name == "runtime.NumGoroutine") = false := by kernel_rfl
theorem i9 : seat.fi 9 = 9 := by kernel_rfl
theorem l9 : Tryd.prog.funcs[seat.fi 9]? = some Tryd.f9 := by rw [i9]; exact Tryd.func9
theorem k10 : cFunc Tryd.prog seat (lvF F10) Tryd.f10 = some F10 := by kernel_rfl
theorem n10 : (Tryd.f10.name == "runtime.NumGoroutine") = false := by kernel_rfl
theorem i10 : seat.fi 10 = 10 := by kernel_rfl
theorem l10 : Tryd.prog.funcs[seat.fi 10]? = some Tryd.f10 := by rw [i10]; exact Tryd.func10
theorem k18 : cFunc Tryd.prog seat (lvF F18) Tryd.f18 = some F18 := by kernel_rfl
theorem n18 : (Tryd.f18.name == "runtime.NumGoroutine") = false := by kernel_rfl
theorem i18 : seat.fi 18 = 18 := by kernel_rfl
theorem l18 : Tryd.prog.funcs[seat.fi 18]? = some Tryd.f18 := by rw [i18]; exact Tryd.func18
theorem k19 : cFunc Tryd.prog seat (lvF F19) Tryd.f19 = some F19 := by kernel_rfl
theorem n19 : (Tryd.f19.name == "runtime.NumGoroutine") = false := by kernel_rfl
theorem i19 : seat.fi 19 = 19 := by kernel_rfl
theorem l19 : Tryd.prog.funcs[seat.fi 19]? = some Tryd.f19 := by rw [i19]; exact Tryd.func19
theorem k20 : cFunc Tryd.prog seat (lvF F20) Tryd.f20 = some F20 := by kernel_rfl
theorem n20 : (Tryd.f20.name == "runtime.NumGoroutine") = false := by kernel_rfl
theorem i20 : seat.fi 20 = 20 := by kernel_rfl
theorem l20 : Tryd.prog.funcs[seat.fi 20]? = some Tryd.f20 := by rw [i20]; exact Tryd.func20
theorem k21 : cFunc Tryd.prog seat (lvF F21) Tryd.f21 = some F21 := by kernel_rfl
theorem n21 : (Tryd.f21.name == "runtime.NumGoroutine") = false := by kernel_rfl
theorem i21 : seat.fi 21 = 21 := by kernel_rfl
theorem l21 : Tryd.prog.funcs[seat.fi 21]? = some Tryd.f21 := by rw [i21]; exact Tryd.func21
theorem k22 : cFunc Tryd.prog seat (lvF F22) Tryd.f22 = some F22 := by kernel_rfl
theorem n22 : (Tryd.f22.name == "runtime.NumGoroutine") = false := by kernel_rfl
theorem i22 : seat.fi 22 = 22 := by kernel_rfl
theorem l22 : Tryd.prog.funcs[seat.fi 22]? = some Tryd.f22 := by rw [i22]; exact Tryd.func22
theorem k45 : cFunc Tryd.prog seat (lvF F45) Tryd.f45 = some F45 := by kernel_rfl
theorem n45 : (Tryd.f45.name == "runtime.NumGoroutine") = false := by kernel_rfl
theorem i45 : seat.fi 45 = 45 := by kernel_rfl
theorem l45 : Tryd.prog.funcs[seat.fi 45]? = some Tryd.f45 := by rw [i45]; exact Tryd.func45
theorem k47 : cFunc Tryd.prog seat (lvF F47) Tryd.f47 = some F47 := by kernel_rfl
theorem n47 : (Tryd.f47.name == "runtime.NumGoroutine") = false := by kernel_rfl
theorem i47 : seat.fi 47 = 47 := by kernel_rfl
theorem l47 : Tryd.prog.funcs[seat.fi 47]? = some Tryd.f47 := by rw [i47]; exact Tryd.func47
theorem k48 : cFunc Tryd.prog seat (lvF F48) Tryd.f48 = some F48 := by kernel_rfl
theorem n48 : (Tryd.f48.name == "runtime.NumGoroutine") = false := by kernel_rfl
theorem i48 : seat.fi 48 = 48 := by kernel_rfl
theorem l48 : Tryd.prog.funcs[seat.fi 48]? = some Tryd.f48 := by rw [i48]; exact Tryd.func48
theorem k49 : cFunc Tryd.prog seat (lvF F49) Tryd.f49 = some F49 := by kernel_rfl
theorem n49 : (Tryd.f49.name == "runtime.NumGoroutine") = false := by kernel_rfl
theorem i49 : seat.fi 49 = 49 := by kernel_rfl
theorem l49 : Tryd.prog.funcs[seat.fi 49]? = some Tryd.f49 := by rw [i49]; exact Tryd.func49
theorem k50 : cFunc Tryd.prog seat (lvF F50) Tryd.f50 = some F50 := by kernel_rfl
theorem n50 : (Tryd.f50.name == "runtime.NumGoroutine") = false := by kernel_rfl
theorem i50 : seat.fi 50 = 50 := by kernel_rfl
theorem l50 : Tryd.prog.funcs[seat.fi 50]? = some Tryd.f50 := by rw [i50]; exact Tryd.func50
theorem k51 : cFunc Tryd.prog seat (lvF F51) Tryd.f51 = some F51 := by kernel_rfl
theorem n51 : (Tryd.f51.name == "runtime.NumGoroutine") = false := by kernel_rfl
theorem i51 : seat.fi 51 = 51 := by kernel_rfl
theorem l51 : Tryd.prog.funcs[seat.fi 51]? = some Tryd.f51 := by rw [i51]; exact Tryd.func51
theorem k52 : cFunc Tryd.prog seat (lvF F52) Tryd.f52 = some F52 := by kernel_rfl
theorem n52 : (Tryd.f52.name == "runtime.NumGoroutine") = false := by kernel_rfl
theorem i52 : seat.fi 52 = 52 := by kernel_rfl
theorem l52 : Tryd.prog.funcs[seat.fi 52]? = some Tryd.f52 := by rw [i52]; exact Tryd.func52
theorem k53 : cFunc Tryd.prog seat (lvF F53) Tryd.f53 = some F53 := by kernel_rfl
theorem n53 : (Tryd.f53.name == "runtime.NumGoroutine") = false := by kernel_rfl
theorem i53 : seat.fi 53 = 53 := by kernel_rfl
theorem l53 : Tryd.prog.funcs[seat.fi 53]? = some Tryd.f53 := by rw [i53]; exact Tryd.func53
theorem k54 : cFunc Tryd.prog seat (lvF F54) Tryd.f54 = some F54 := by kernel_rfl
theorem n54 : (Tryd.f54.name == "runtime.NumGoroutine") = false := by kernel_rfl
theorem i54 : seat.fi 54 = 54 := by kernel_rfl
theorem l54 : Tryd.prog.funcs[seat.fi 54]? = some Tryd.f54 := by rw [i54]; exact Tryd.func54
theorem k55 : cFunc Tryd.prog seat (lvF F55) Tryd.f55 = some F55 := by kernel_rfl
theorem n55 : (Tryd.f55.name == "runtime.NumGoroutine") = false := by kernel_rfl
theorem i55 : seat.fi 55 = 55 := by kernel_rfl
theorem l55 : Tryd.prog.funcs[seat.fi 55]? = some Tryd.f55 := by rw [i55]; exact Tryd.func55
theorem k56 : cFunc Tryd.prog seat (lvF F56) Tryd.f56 = some F56 := by kernel_rfl
theorem n56 : (Tryd.f56.name == "runtime.NumGoroutine") = false := by kernel_rfl
theorem i56 : seat.fi 56 = 56 := by kernel_rfl
theorem l56 : Tryd.prog.funcs[seat.fi 56]? = some Tryd.f56 := by rw [i56]; exact Tryd.func56
theorem k81 : cFunc Tryd.prog seat (lvF F81) Tryd.f81 = some F81 := by kernel_rfl
theorem n81 : (Tryd.f81.name == "runtime.NumGoroutine") = false := by kernel_rfl
theorem i81 : seat.fi 81 = 81 := by kernel_rfl
theorem l81 : Tryd.prog.funcs[seat.fi 81]? = some Tryd.f81 := by rw [i81]; exact Tryd.func81
theorem k82 : cFunc Tryd.prog seat (lvF F82) Tryd.f82 = some F82 := by kernel_rfl
theorem n82 : (Tryd.f82.name == "runtime.NumGoroutine") = false := by kernel_rfl
theorem i82 : seat.fi 82 = 82 := by kernel_rfl
theorem l82 : Tryd.prog.funcs[seat.fi 82]? = some Tryd.f82 := by rw [i82]; exact Tryd.func82
theorem k83 : cFunc Tryd.prog seat (lvF F83) Tryd.f83 = some F83 := by kernel_rfl
theorem n83 : (Tryd.f83.name == "runtime.NumGoroutine") = false := by kernel_rfl
theorem i83 : seat.fi 83 = 83 := by kernel_rfl
theorem l83 : Tryd.prog.funcs[seat.fi 83]? = some Tryd.f83 := by rw [i83]; exact Tryd.func83
theorem k84 : cFunc Tryd.prog seat (lvF F84) Tryd.f84 = some F84 := by kernel_rfl
theorem n84 : (Tryd.f84.name == "runtime.NumGoroutine") = false := by kernel_rfl
theorem i84 : seat.fi 84 = 84 := by kernel_rfl
theorem l84 : Tryd.prog.funcs[seat.fi 84]? = some Tryd.f84 := by rw [i84]; exact Tryd.func84
theorem k85 : cFunc Tryd.prog seat (lvF F85) Tryd.f85 = some F85 := by kernel_rfl
theorem n85 : (Tryd.f85.name == "runtime.NumGoroutine") = false := by kernel_rfl
theorem i85 : seat.fi 85 = 85 := by kernel_rfl
theorem l85 : Tryd.prog.funcs[seat.fi 85]? = some Tryd.f85 := by rw [i85]; exact Tryd.func85
theorem k86 : cFunc Tryd.prog seat (lvF F86) Tryd.f86 = some F86 := by kernel_rfl
theorem n86 : (Tryd.f86.name == "runtime.NumGoroutine") = false := by kernel_rfl
theorem i86 : seat.fi 86 = 86 := by kernel_rfl
theorem l86 : Tryd.prog.funcs[seat.fi 86]? = some Tryd.f86 := by rw [i86]; exact Tryd.func86
theorem k87 : cFunc Tryd.prog seat (lvF F87) Tryd.f87 = some F87 := by kernel_rfl
theorem n87 : (Tryd.f87.name == "runtime.NumGoroutine") = false := by kernel_rfl
theorem i87 : seat.fi 87 = 87 := by kernel_rfl
theorem l87 : Tryd.prog.funcs[seat.fi 87]? = some Tryd.f87 := by rw [i87]; exact Tryd.func87
theorem k88 : cFunc Tryd.prog seat (lvF F88) Tryd.f88 = some F88 := by kernel_rfl
theorem n88 : (Tryd.f88.name == "runtime.NumGoroutine") = false := by kernel_rfl
theorem i88 : seat.fi 88 = 88 := by kernel_rfl
theorem l88 : Tryd.prog.funcs[seat.fi 88]? = some Tryd.f88 := by rw [i88]; exact Tryd.func88
theorem k89 : cFunc Tryd.prog seat (lvF F89) Tryd.f89 = some F89 := by kernel_rfl
theorem n89 : (Tryd.f89.name == "runtime.NumGoroutine") = false := by kernel_rfl
theorem i89 : seat.fi 89 = 89 := by kernel_rfl
theorem l89 : Tryd.prog.funcs[seat.fi 89]? = some Tryd.f89 := by rw [i89]; exact Tryd.func89
theorem k90 : cFunc Tryd.prog seat (lvF F90) Tryd.f90 = some F90 := by kernel_rfl
theorem n90 : (Tryd.f90.name == "runtime.NumGoroutine") = false := by kernel_rfl
theorem i90 : seat.fi 90 = 90 := by kernel_rfl
theorem l90 : Tryd.prog.funcs[seat.fi 90]? = some Tryd.f90 := by rw [i90]; exact Tryd.func90
theorem k91 : cFunc Tryd.prog seat (lvF F91) Tryd.f91 = some F91 := by kernel_rfl
theorem n91 : (Tryd.f91.name == "runtime.NumGoroutine") = false := by kernel_rfl
theorem i91 : seat.fi 91 = 91 := by kernel_rfl
theorem l91 : Tryd.prog.funcs[seat.fi 91]? = some Tryd.f91 := by rw [i91]; exact Tryd.func91
theorem k92 : cFunc Tryd.prog seat (lvF F92) Tryd.f92 = some F92 := by kernel_rfl
theorem n92 : (Tryd.f92.name == "runtime.NumGoroutine") = false := by kernel_rfl
theorem i92 : seat.fi 92 = 92 := by kernel_rfl
theorem l92 : Tryd.prog.funcs[seat.fi 92]? = some Tryd.f92 := by rw [i92]; exact Tryd.func92
theorem k93 : cFunc Tryd.prog seat (lvF F93) Tryd.f93 = some F93 := by kernel_rfl
theorem n93 : (Tryd.f93.name == "runtime.NumGoroutine") = false := by kernel_rfl
theorem i93 : seat.fi 93 = 93 := by kernel_rfl
theorem l93 : Tryd.prog.funcs[seat.fi 93]? = some Tryd.f93 := by rw [i93]; exact Tryd.func93
theorem k94 : cFunc Tryd.prog seat (lvF F94) Tryd.f94 = some F94 := by kernel_rfl
theorem n94 : (Tryd.f94.name == "runtime.NumGoroutine") = false := by kernel_rfl
theorem i94 : seat.fi 94 = 94 := by kernel_rfl
theorem l94 : Tryd.prog.funcs[seat.fi 94]? = some Tryd.f94 := by rw [i94]; exact Tryd.func94
theorem k95 : cFunc Tryd.prog seat (lvF F95) Tryd.f95 = some F95 := by kernel_rfl
theorem n95 : (Tryd.f95.name == "runtime.NumGoroutine") = false := by kernel_rfl
theorem i95 : seat.fi 95 = 95 := by kernel_rfl
theorem l95 : Tryd.prog.funcs[seat.fi 95]? = some Tryd.f95 := by rw [i95]; exact Tryd.func95
theorem k97 : cFunc Tryd.prog seat (lvF F97) Tryd.f97 = some F97 := by kernel_rfl
theorem n97 : (Tryd.f97.name == "runtime.NumGoroutine") = false := by kernel_rfl
theorem i97 : seat.fi 97 = 97 := by kernel_rfl
theorem l97 : Tryd.prog.funcs[seat.fi 97]? = some Tryd.f97 := by rw [i97]; exact Tryd.func97
theorem k105 : cFunc Tryd.prog seat (lvF F105) Tryd.f105 = some F105 := by kernel_rfl
theorem n105 : (Tryd.f105.name == "runtime.NumGoroutine") = false := by kernel_rfl
theorem i105 : seat.fi 105 = 105 := by kernel_rfl
theorem l105 : Tryd.prog.funcs[seat.fi 105]? = some Tryd.f105 := by rw [i105]; exact Tryd.func105
theorem k111 : cFunc Tryd.prog seat (lvF F111) Tryd.f111 = some F111 := by kernel_rfl
theorem n111 : (Tryd.f111.name == "runtime.NumGoroutine") = false := by kernel_rfl
theorem i111 : seat.fi 111 = 111 := by kernel_rfl
theorem l111 : Tryd.prog.funcs[seat.fi 111]? = some Tryd.f111 := by rw [i111]; exact Tryd.func111
theorem k112 : cFunc Tryd.prog seat (lvF F112) Tryd.f112 = some F112 := by kernel_rfl
theorem n112 : (Tryd.f112.name == "runtime.NumGoroutine") = false := by kernel_rfl
theorem i112 : seat.fi 112 = 112 := by kernel_rfl
theorem l112 : Tryd.prog.funcs[seat.fi 112]? = some Tryd.f112 := by rw [i112]; exact Tryd.func112
theorem k113 : cFunc Tryd.prog seat (lvF F113) Tryd.f113 = some F113 := by kernel_rfl
theorem n113 : (Tryd.f113.name == "runtime.NumGoroutine") = false := by kernel_rfl
theorem i113 : seat.fi 113 = 113 := by kernel_rfl
theorem l113 : Tryd.prog.funcs[seat.fi 113]? = some Tryd.f113 := by rw [i113]; exact Tryd.func113
theorem k114 : cFunc Tryd.prog seat (lvF F114) Tryd.f114 = some F114 := by kernel_rfl
theorem n114 : (Tryd.f114.name == "runtime.NumGoroutine") = false := by kernel_rfl
theorem i114 : seat.fi 114 = 114 := by kernel_rfl
theorem l114 : Tryd.prog.funcs[seat.fi 114]? = some Tryd.f114 := by rw [i114]; exact Tryd.func114
theorem k115 : cFunc Tryd.prog seat (lvF F115) Tryd.f115 = some F115 := by kernel_rfl
theorem n115 : (Tryd.f115.name == "runtime.NumGoroutine") = false := by kernel_rfl
theorem i115 : seat.fi 115 = 115 := by kernel_rfl
theorem l115 : Tryd.prog.funcs[seat.fi 115]? = some Tryd.f115 := by rw [i115]; exact Tryd.func115
theorem k116 : cFunc Tryd.prog seat (lvF F116) Tryd.f116 = some F116 := by kernel_rfl
theorem n116 : (Tryd.f116.name == "runtime.NumGoroutine") = false := by kernel_rfl
theorem i116 : seat.fi 116 = 116 := by kernel_rfl
theorem l116 : Tryd.prog.funcs[seat.fi 116]? = some Tryd.f116 := by rw [i116]; exact Tryd.func116
/-- The functions that are looked at by their code. -/
def G : IProg := fun f => match f with
  | 3 => some F3
  | 8 => some F8
  | 9 => some F9
  | 10 => some F10
  | 18 => some F18
  | 19 => some F19
  | 20 => some F20
  | 21 => some F21
  | 22 => some F22
  | 45 => some F45
  | 47 => some F47
  | 48 => some F48
  | 49 => some F49
  | 50 => some F50
  | 51 => some F51
  | 52 => some F52
  | 53 => some F53
  | 54 => some F54
  | 55 => some F55
  | 56 => some F56
  | 81 => some F81
  | 82 => some F82
  | 83 => some F83
  | 84 => some F84
  | 85 => some F85
  | 86 => some F86
  | 87 => some F87
  | 88 => some F88
  | 89 => some F89
  | 90 => some F90
  | 91 => some F91
  | 93 => some F93
  | 94 => some F94
  | 95 => some F95
  | 97 => some F97
  | 105 => some F105
  | 111 => some F111
  | 112 => some F112
  | 113 => some F113
  | 114 => some F114
  | 115 => some F115
  | 116 => some F116
  | _ => none
theorem fits : Fits Tryd.prog seat G := by
  intro f F h
  unfold G at h
  split at h
  · cases h; exact ⟨_, _, l3, n3, k3⟩
  · cases h; exact ⟨_, _, l8, n8, k8⟩
  · cases h; exact ⟨_, _, l9, n9, k9⟩
  · cases h; exact ⟨_, _, l10, n10, k10⟩
  · cases h; exact ⟨_, _, l18, n18, k18⟩
  · cases h; exact ⟨_, _, l19, n19, k19⟩
  · cases h; exact ⟨_, _, l20, n20, k20⟩
  · cases h; exact ⟨_, _, l21, n21, k21⟩
  · cases h; exact ⟨_, _, l22, n22, k22⟩
  · cases h; exact ⟨_, _, l45, n45, k45⟩
  · cases h; exact ⟨_, _, l47, n47, k47⟩
  · cases h; exact ⟨_, _, l48, n48, k48⟩
  · cases h; exact ⟨_, _, l49, n49, k49⟩
  · cases h; exact ⟨_, _, l50, n50, k50⟩
  · cases h; exact ⟨_, _, l51, n51, k51⟩
  · cases h; exact ⟨_, _, l52, n52, k52⟩
  · cases h; exact ⟨_, _, l53, n53, k53⟩
  · cases h; exact ⟨_, _, l54, n54, k54⟩
  · cases h; exact ⟨_, _, l55, n55, k55⟩
  · cases h; exact ⟨_, _, l56, n56, k56⟩
  · cases h; exact ⟨_, _, l81, n81, k81⟩
  · cases h; exact ⟨_, _, l82, n82, k82⟩
  · cases h; exact ⟨_, _, l83, n83, k83⟩
  · cases h; exact ⟨_, _, l84, n84, k84⟩
  · cases h; exact ⟨_, _, l85, n85, k85⟩
  · cases h; exact ⟨_, _, l86, n86, k86⟩
  · cases h; exact ⟨_, _, l87, n87, k87⟩
  · cases h; exact ⟨_, _, l88, n88, k88⟩
  · cases h; exact ⟨_, _, l89, n89, k89⟩
  · cases h; exact ⟨_, _, l90, n90, k90⟩
  · cases h; exact ⟨_, _, l91, n91, k91⟩
  · cases h; exact ⟨_, _, l93, n93, k93⟩
  · cases h; exact ⟨_, _, l94, n94, k94⟩
  · cases h; exact ⟨_, _, l95, n95, k95⟩
  · cases h; exact ⟨_, _, l97, n97, k97⟩
  · cases h; exact ⟨_, _, l105, n105, k105⟩
  · cases h; exact ⟨_, _, l111, n111, k111⟩
  · cases h; exact ⟨_, _, l112, n112, k112⟩
  · cases h; exact ⟨_, _, l113, n113, k113⟩
  · cases h; exact ⟨_, _, l114, n114, k114⟩
  · cases h; exact ⟨_, _, l115, n115, k115⟩
  · cases h; exact ⟨_, _, l116, n116, k116⟩
  · simp at h
end Go.Proofs.YtkcbomohgbafoaaDoor
