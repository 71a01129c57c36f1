/- The tables fit the program: functions, part 0 (written by gen2.py; own work). -/
import Derived.Test.YtfcngcogphoikaaGreatXd
namespace Go.Ev.Tryz
open Go.Ev Go.Proofs

theorem ok3 : FnOk cfg Go.Proofs.Tryz.prog 3 Go.Proofs.Tryz.f3 := ⟨Go.Proofs.Tryz.func3, by kernel_rfl, body_q (by kernel_rfl)⟩
theorem ok6 : FnOk cfg Go.Proofs.Tryz.prog 6 Go.Proofs.Tryz.f6 := ⟨Go.Proofs.Tryz.func6, by kernel_rfl, body_q (by kernel_rfl)⟩
theorem ok10 : FnOk cfg Go.Proofs.Tryz.prog 10 Go.Proofs.Tryz.f10 := ⟨Go.Proofs.Tryz.func10, by kernel_rfl, body_q (by kernel_rfl)⟩
theorem ok12 : FnOk cfg Go.Proofs.Tryz.prog 12 Go.Proofs.Tryz.f12 := ⟨Go.Proofs.Tryz.func12, by kernel_rfl, body_q (by kernel_rfl)⟩
theorem ok13 : FnOk cfg Go.Proofs.Tryz.prog 13 Go.Proofs.Tryz.f13 := ⟨Go.Proofs.Tryz.func13, by kernel_rfl, body_q (by kernel_rfl)⟩
theorem ok14 : FnOk cfg Go.Proofs.Tryz.prog 14 Go.Proofs.Tryz.f14 := ⟨Go.Proofs.Tryz.func14, by kernel_rfl, body_q (by kernel_rfl)⟩
theorem ok16 : FnOk cfg Go.Proofs.Tryz.prog 16 Go.Proofs.Tryz.f16 := ⟨Go.Proofs.Tryz.func16, by kernel_rfl, body_q (by kernel_rfl)⟩
theorem ok17 : FnOk cfg Go.Proofs.Tryz.prog 17 Go.Proofs.Tryz.f17 := ⟨Go.Proofs.Tryz.func17, by kernel_rfl, body_q (by kernel_rfl)⟩
theorem ok19 : FnOk cfg Go.Proofs.Tryz.prog 19 Go.Proofs.Tryz.f19 := ⟨Go.Proofs.Tryz.func19, by kernel_rfl, body_q (by kernel_rfl)⟩
theorem ok20 : FnOk cfg Go.Proofs.Tryz.prog 20 Go.Proofs.Tryz.f20 := ⟨Go.Proofs.Tryz.func20, by kernel_rfl, body_q (by kernel_rfl)⟩
theorem ok21 : FnOk cfg Go.Proofs.Tryz.prog 21 Go.Proofs.Tryz.f21 := ⟨Go.Proofs.Tryz.func21, by kernel_rfl, body_q (by kernel_rfl)⟩
theorem ok22 : FnOk cfg Go.Proofs.Tryz.prog 22 Go.Proofs.Tryz.f22 := ⟨Go.Proofs.Tryz.func22, by kernel_rfl, body_q (by kernel_rfl)⟩
theorem ok23 : FnOk cfg Go.Proofs.Tryz.prog 23 Go.Proofs.Tryz.f23 := ⟨Go.Proofs.Tryz.func23, by kernel_rfl, body_q (by kernel_rfl)⟩
theorem ok25 : FnOk cfg Go.Proofs.Tryz.prog 25 Go.Proofs.Tryz.f25 := ⟨Go.Proofs.Tryz.func25, by kernel_rfl, body_q (by kernel_rfl)⟩
theorem ok26 : FnOk cfg Go.Proofs.Tryz.prog 26 Go.Proofs.Tryz.f26 := ⟨Go.Proofs.Tryz.func26, by kernel_rfl, body_q (by kernel_rfl)⟩
theorem ok27 : FnOk cfg Go.Proofs.Tryz.prog 27 Go.Proofs.Tryz.f27 := ⟨Go.Proofs.Tryz.func27, by kernel_rfl, body_q (by kernel_rfl)⟩
theorem ok32 : FnOk cfg Go.Proofs.Tryz.prog 32 Go.Proofs.Tryz.f32 := ⟨Go.Proofs.Tryz.func32, by kernel_rfl, body_q (by kernel_rfl)⟩
theorem ok35 : FnOk cfg Go.Proofs.Tryz.prog 35 Go.Proofs.Tryz.f35 := ⟨Go.Proofs.Tryz.func35, by kernel_rfl, body_q (by kernel_rfl)⟩
theorem ok39 : FnOk cfg Go.Proofs.Tryz.prog 39 Go.Proofs.Tryz.f39 := ⟨Go.Proofs.Tryz.func39, by kernel_rfl, body_q (by kernel_rfl)⟩
theorem ok40 : FnOk cfg Go.Proofs.Tryz.prog 40 Go.Proofs.Tryz.f40 := ⟨Go.Proofs.Tryz.func40, by kernel_rfl, body_q (by kernel_rfl)⟩
theorem ok46 : FnOk cfg Go.Proofs.Tryz.prog 46 Go.Proofs.Tryz.f46 := ⟨Go.Proofs.Tryz.func46, by kernel_rfl, body_q (by kernel_rfl)⟩
theorem ok48 : FnOk cfg Go.Proofs.Tryz.prog 48 Go.Proofs.Tryz.f48 := ⟨Go.Proofs.Tryz.func48, by kernel_rfl, body_q (by kernel_rfl)⟩
theorem ok52 : FnOk cfg Go.Proofs.Tryz.prog 52 Go.Proofs.Tryz.f52 := ⟨Go.Proofs.Tryz.func52, by kernel_rfl, body_q (by kernel_rfl)⟩
theorem ok54 : FnOk cfg Go.Proofs.Tryz.prog 54 Go.Proofs.Tryz.f54 := ⟨Go.Proofs.Tryz.func54, by kernel_rfl, body_q (by kernel_rfl)⟩
theorem ok55 : FnOk cfg Go.Proofs.Tryz.prog 55 Go.Proofs.Tryz.f55 := ⟨Go.Proofs.Tryz.func55, by kernel_rfl, body_q (by kernel_rfl)⟩
theorem ok59 : FnOk cfg Go.Proofs.Tryz.prog 59 Go.Proofs.Tryz.f59 := ⟨Go.Proofs.Tryz.func59, by kernel_rfl, body_q (by kernel_rfl)⟩
theorem ok60 : FnOk cfg Go.Proofs.Tryz.prog 60 Go.Proofs.Tryz.f60 := ⟨Go.Proofs.Tryz.func60, by kernel_rfl, body_q (by kernel_rfl)⟩
theorem ok62 : FnOk cfg Go.Proofs.Tryz.prog 62 Go.Proofs.Tryz.f62 := ⟨Go.Proofs.Tryz.func62, by kernel_rfl, body_q (by kernel_rfl)⟩
theorem ok65 : FnOk cfg Go.Proofs.Tryz.prog 65 Go.Proofs.Tryz.f65 := ⟨Go.Proofs.Tryz.func65, by kernel_rfl, body_q (by kernel_rfl)⟩
theorem ok66 : FnOk cfg Go.Proofs.Tryz.prog 66 Go.Proofs.Tryz.f66 := ⟨Go.Proofs.Tryz.func66, by kernel_rfl, body_q (by kernel_rfl)⟩
theorem ok67 : FnOk cfg Go.Proofs.Tryz.prog 67 Go.Proofs.Tryz.f67 := ⟨Go.Proofs.Tryz.func67, by kernel_rfl, body_q (by kernel_rfl)⟩
theorem ok68 : FnOk cfg Go.Proofs.Tryz.prog 68 Go.Proofs.Tryz.f68 := ⟨Go.Proofs.Tryz.func68, by kernel_rfl, body_q (by kernel_rfl)⟩
theorem ok74 : FnOk cfg Go.Proofs.Tryz.prog 74 Go.Proofs.Tryz.f74 := ⟨Go.Proofs.Tryz.func74, by kernel_rfl, body_q (by kernel_rfl)⟩
theorem ok75 : FnOk cfg Go.Proofs.Tryz.prog 75 Go.Proofs.Tryz.f75 := ⟨Go.Proofs.Tryz.func75, by kernel_rfl, body_q (by kernel_rfl)⟩
theorem ok76 : FnOk cfg Go.Proofs.Tryz.prog 76 Go.Proofs.Tryz.f76 := ⟨Go.Proofs.Tryz.func76, by kernel_rfl, body_q (by kernel_rfl)⟩
theorem ok78 : FnOk cfg Go.Proofs.Tryz.prog 78 Go.Proofs.Tryz.f78 := ⟨Go.Proofs.Tryz.func78, by kernel_rfl, body_q (by kernel_rfl)⟩
theorem ok79 : FnOk cfg Go.Proofs.Tryz.prog 79 Go.Proofs.Tryz.f79 := ⟨Go.Proofs.Tryz.func79, by kernel_rfl, body_q (by kernel_rfl)⟩
theorem ok81 : FnOk cfg Go.Proofs.Tryz.prog 81 Go.Proofs.Tryz.f81 := ⟨Go.Proofs.Tryz.func81, by kernel_rfl, body_q (by kernel_rfl)⟩
theorem ok82 : FnOk cfg Go.Proofs.Tryz.prog 82 Go.Proofs.Tryz.f82 := ⟨Go.Proofs.Tryz.func82, by kernel_rfl, body_q (by kernel_rfl)⟩
theorem ok85 : FnOk cfg Go.Proofs.Tryz.prog 85 Go.Proofs.Tryz.f85 := ⟨Go.Proofs.Tryz.func85, by kernel_rfl, body_q (by kernel_rfl)⟩
theorem ok86 : FnOk cfg Go.Proofs.Tryz.prog 86 Go.Proofs.Tryz.f86 := ⟨Go.Proofs.Tryz.func86, by kernel_rfl, body_q (by kernel_rfl)⟩
theorem ok87 : FnOk cfg Go.Proofs.Tryz.prog 87 Go.Proofs.Tryz.f87 := ⟨Go.Proofs.Tryz.func87, by kernel_rfl, body_q (by kernel_rfl)⟩
theorem ok90 : FnOk cfg Go.Proofs.Tryz.prog 90 Go.Proofs.Tryz.f90 := ⟨Go.Proofs.Tryz.func90, by kernel_rfl, body_q (by kernel_rfl)⟩
theorem ok93 : FnOk cfg Go.Proofs.Tryz.prog 93 Go.Proofs.Tryz.f93 := ⟨Go.Proofs.Tryz.func93, by kernel_rfl, body_q (by kernel_rfl)⟩
theorem ok95 : FnOk cfg Go.Proofs.Tryz.prog 95 Go.Proofs.Tryz.f95 := ⟨Go.Proofs.Tryz.func95, by kernel_rfl, body_q (by kernel_rfl)⟩
theorem ok96 : FnOk cfg Go.Proofs.Tryz.prog 96 Go.Proofs.Tryz.f96 := ⟨Go.Proofs.Tryz.func96, by kernel_rfl, body_q (by kernel_rfl)⟩
theorem ok97 : FnOk cfg Go.Proofs.Tryz.prog 97 Go.Proofs.Tryz.f97 := ⟨Go.Proofs.Tryz.func97, by kernel_rfl, body_q (by kernel_rfl)⟩
theorem ok98 : FnOk cfg Go.Proofs.Tryz.prog 98 Go.Proofs.Tryz.f98 := ⟨Go.Proofs.Tryz.func98, by kernel_rfl, body_q (by kernel_rfl)⟩
theorem ok101 : FnOk cfg Go.Proofs.Tryz.prog 101 Go.Proofs.Tryz.f101 := ⟨Go.Proofs.Tryz.func101, by kernel_rfl, body_q (by kernel_rfl)⟩
theorem ok105 : FnOk cfg Go.Proofs.Tryz.prog 105 Go.Proofs.Tryz.f105 := ⟨Go.Proofs.Tryz.func105, by kernel_rfl, body_q (by kernel_rfl)⟩
theorem ok106 : FnOk cfg Go.Proofs.Tryz.prog 106 Go.Proofs.Tryz.f106 := ⟨Go.Proofs.Tryz.func106, by kernel_rfl, body_q (by kernel_rfl)⟩
theorem ok107 : FnOk cfg Go.Proofs.Tryz.prog 107 Go.Proofs.Tryz.f107 := ⟨Go.Proofs.Tryz.func107, by kernel_rfl, body_q (by kernel_rfl)⟩
theorem ok109 : FnOk cfg Go.Proofs.Tryz.prog 109 Go.Proofs.Tryz.f109 := ⟨Go.Proofs.Tryz.func109, by kernel_rfl, body_q (by kernel_rfl)⟩
theorem ok111 : FnOk cfg Go.Proofs.Tryz.prog 111 Go.Proofs.Tryz.f111 := ⟨Go.Proofs.Tryz.func111, by kernel_rfl, body_q (by kernel_rfl)⟩

end Go.Ev.Tryz
