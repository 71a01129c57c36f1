/- The tables fit the program: functions, part 1 (written by gen2.py; own work). -/
import Derived.Test.YtfcngcogphoikaaGreatXd
namespace Go.Ev.Tryz
open Go.Ev Go.Proofs

theorem ok4 : FnOk cfg Go.Proofs.Tryz.prog 4 Go.Proofs.Tryz.f4 := ⟨Go.Proofs.Tryz.func4, by kernel_rfl, body_q (by kernel_rfl)⟩
theorem ok5 : FnOk cfg Go.Proofs.Tryz.prog 5 Go.Proofs.Tryz.f5 := ⟨Go.Proofs.Tryz.func5, by kernel_rfl, body_q (by kernel_rfl)⟩
theorem ok7 : FnOk cfg Go.Proofs.Tryz.prog 7 Go.Proofs.Tryz.f7 := ⟨Go.Proofs.Tryz.func7, by kernel_rfl, body_q (by kernel_rfl)⟩
theorem ok8 : FnOk cfg Go.Proofs.Tryz.prog 8 Go.Proofs.Tryz.f8 := ⟨Go.Proofs.Tryz.func8, by kernel_rfl, body_q (by kernel_rfl)⟩
theorem ok9 : FnOk cfg Go.Proofs.Tryz.prog 9 Go.Proofs.Tryz.f9 := ⟨Go.Proofs.Tryz.func9, by kernel_rfl, body_q (by kernel_rfl)⟩
theorem ok11 : FnOk cfg Go.Proofs.Tryz.prog 11 Go.Proofs.Tryz.f11 := ⟨Go.Proofs.Tryz.func11, by kernel_rfl, body_q (by kernel_rfl)⟩
theorem ok15 : FnOk cfg Go.Proofs.Tryz.prog 15 Go.Proofs.Tryz.f15 := ⟨Go.Proofs.Tryz.func15, by kernel_rfl, body_q (by kernel_rfl)⟩
theorem ok18 : FnOk cfg Go.Proofs.Tryz.prog 18 Go.Proofs.Tryz.f18 := ⟨Go.Proofs.Tryz.func18, by kernel_rfl, body_q (by kernel_rfl)⟩
theorem ok24 : FnOk cfg Go.Proofs.Tryz.prog 24 Go.Proofs.Tryz.f24 := ⟨Go.Proofs.Tryz.func24, by kernel_rfl, body_q (by kernel_rfl)⟩
theorem ok28 : FnOk cfg Go.Proofs.Tryz.prog 28 Go.Proofs.Tryz.f28 := ⟨Go.Proofs.Tryz.func28, by kernel_rfl, body_q (by kernel_rfl)⟩
theorem ok29 : FnOk cfg Go.Proofs.Tryz.prog 29 Go.Proofs.Tryz.f29 := ⟨Go.Proofs.Tryz.func29, by kernel_rfl, body_q (by kernel_rfl)⟩
theorem ok30 : FnOk cfg Go.Proofs.Tryz.prog 30 Go.Proofs.Tryz.f30 := ⟨Go.Proofs.Tryz.func30, by kernel_rfl, body_q (by kernel_rfl)⟩
theorem ok31 : FnOk cfg Go.Proofs.Tryz.prog 31 Go.Proofs.Tryz.f31 := ⟨Go.Proofs.Tryz.func31, by kernel_rfl, body_q (by kernel_rfl)⟩
theorem ok33 : FnOk cfg Go.Proofs.Tryz.prog 33 Go.Proofs.Tryz.f33 := ⟨Go.Proofs.Tryz.func33, by kernel_rfl, body_q (by kernel_rfl)⟩
theorem ok34 : FnOk cfg Go.Proofs.Tryz.prog 34 Go.Proofs.Tryz.f34 := ⟨Go.Proofs.Tryz.func34, by kernel_rfl, body_q (by kernel_rfl)⟩
theorem ok36 : FnOk cfg Go.Proofs.Tryz.prog 36 Go.Proofs.Tryz.f36 := ⟨Go.Proofs.Tryz.func36, by kernel_rfl, body_q (by kernel_rfl)⟩
theorem ok37 : FnOk cfg Go.Proofs.Tryz.prog 37 Go.Proofs.Tryz.f37 := ⟨Go.Proofs.Tryz.func37, by kernel_rfl, body_q (by kernel_rfl)⟩
theorem ok38 : FnOk cfg Go.Proofs.Tryz.prog 38 Go.Proofs.Tryz.f38 := ⟨Go.Proofs.Tryz.func38, by kernel_rfl, body_q (by kernel_rfl)⟩
theorem ok41 : FnOk cfg Go.Proofs.Tryz.prog 41 Go.Proofs.Tryz.f41 := ⟨Go.Proofs.Tryz.func41, by kernel_rfl, body_q (by kernel_rfl)⟩
theorem ok42 : FnOk cfg Go.Proofs.Tryz.prog 42 Go.Proofs.Tryz.f42 := ⟨Go.Proofs.Tryz.func42, by kernel_rfl, body_q (by kernel_rfl)⟩
theorem ok43 : FnOk cfg Go.Proofs.Tryz.prog 43 Go.Proofs.Tryz.f43 := ⟨Go.Proofs.Tryz.func43, by kernel_rfl, body_q (by kernel_rfl)⟩
theorem ok44 : FnOk cfg Go.Proofs.Tryz.prog 44 Go.Proofs.Tryz.f44 := ⟨Go.Proofs.Tryz.func44, by kernel_rfl, body_q (by kernel_rfl)⟩
theorem ok45 : FnOk cfg Go.Proofs.Tryz.prog 45 Go.Proofs.Tryz.f45 := ⟨Go.Proofs.Tryz.func45, by kernel_rfl, body_q (by kernel_rfl)⟩
theorem ok47 : FnOk cfg Go.Proofs.Tryz.prog 47 Go.Proofs.Tryz.f47 := ⟨Go.Proofs.Tryz.func47, by kernel_rfl, body_q (by kernel_rfl)⟩
theorem ok49 : FnOk cfg Go.Proofs.Tryz.prog 49 Go.Proofs.Tryz.f49 := ⟨Go.Proofs.Tryz.func49, by kernel_rfl, body_q (by kernel_rfl)⟩
theorem ok50 : FnOk cfg Go.Proofs.Tryz.prog 50 Go.Proofs.Tryz.f50 := ⟨Go.Proofs.Tryz.func50, by kernel_rfl, body_q (by kernel_rfl)⟩
theorem ok51 : FnOk cfg Go.Proofs.Tryz.prog 51 Go.Proofs.Tryz.f51 := ⟨Go.Proofs.Tryz.func51, by kernel_rfl, body_q (by kernel_rfl)⟩
theorem ok53 : FnOk cfg Go.Proofs.Tryz.prog 53 Go.Proofs.Tryz.f53 := ⟨Go.Proofs.Tryz.func53, by kernel_rfl, body_q (by kernel_rfl)⟩
theorem ok57 : FnOk cfg Go.Proofs.Tryz.prog 57 Go.Proofs.Tryz.f57 := ⟨Go.Proofs.Tryz.func57, by kernel_rfl, body_q (by kernel_rfl)⟩
theorem ok58 : FnOk cfg Go.Proofs.Tryz.prog 58 Go.Proofs.Tryz.f58 := ⟨Go.Proofs.Tryz.func58, by kernel_rfl, body_q (by kernel_rfl)⟩
theorem ok61 : FnOk cfg Go.Proofs.Tryz.prog 61 Go.Proofs.Tryz.f61 := ⟨Go.Proofs.Tryz.func61, by kernel_rfl, body_q (by kernel_rfl)⟩
theorem ok63 : FnOk cfg Go.Proofs.Tryz.prog 63 Go.Proofs.Tryz.f63 := ⟨Go.Proofs.Tryz.func63, by kernel_rfl, body_q (by kernel_rfl)⟩
theorem ok64 : FnOk cfg Go.Proofs.Tryz.prog 64 Go.Proofs.Tryz.f64 := ⟨Go.Proofs.Tryz.func64, by kernel_rfl, body_q (by kernel_rfl)⟩
theorem ok69 : FnOk cfg Go.Proofs.Tryz.prog 69 Go.Proofs.Tryz.f69 := ⟨Go.Proofs.Tryz.func69, by kernel_rfl, body_q (by kernel_rfl)⟩
theorem ok70 : FnOk cfg Go.Proofs.Tryz.prog 70 Go.Proofs.Tryz.f70 := ⟨Go.Proofs.Tryz.func70, by kernel_rfl, body_q (by kernel_rfl)⟩
theorem ok71 : FnOk cfg Go.Proofs.Tryz.prog 71 Go.Proofs.Tryz.f71 := ⟨Go.Proofs.Tryz.func71, by kernel_rfl, body_q (by kernel_rfl)⟩
theorem ok72 : FnOk cfg Go.Proofs.Tryz.prog 72 Go.Proofs.Tryz.f72 := ⟨Go.Proofs.Tryz.func72, by kernel_rfl, body_q (by kernel_rfl)⟩
theorem ok73 : FnOk cfg Go.Proofs.Tryz.prog 73 Go.Proofs.Tryz.f73 := ⟨Go.Proofs.Tryz.func73, by kernel_rfl, body_q (by kernel_rfl)⟩
theorem ok77 : FnOk cfg Go.Proofs.Tryz.prog 77 Go.Proofs.Tryz.f77 := ⟨Go.Proofs.Tryz.func77, by kernel_rfl, body_q (by kernel_rfl)⟩
theorem ok80 : FnOk cfg Go.Proofs.Tryz.prog 80 Go.Proofs.Tryz.f80 := ⟨Go.Proofs.Tryz.func80, by kernel_rfl, body_q (by kernel_rfl)⟩
theorem ok83 : FnOk cfg Go.Proofs.Tryz.prog 83 Go.Proofs.Tryz.f83 := ⟨Go.Proofs.Tryz.func83, by kernel_rfl, body_q (by kernel_rfl)⟩
theorem ok84 : FnOk cfg Go.Proofs.Tryz.prog 84 Go.Proofs.Tryz.f84 := ⟨Go.Proofs.Tryz.func84, by kernel_rfl, body_q (by kernel_rfl)⟩
theorem ok88 : FnOk cfg Go.Proofs.Tryz.prog 88 Go.Proofs.Tryz.f88 := ⟨Go.Proofs.Tryz.func88, by kernel_rfl, body_q (by kernel_rfl)⟩
theorem ok89 : FnOk cfg Go.Proofs.Tryz.prog 89 Go.Proofs.Tryz.f89 := ⟨Go.Proofs.Tryz.func89, by kernel_rfl, body_q (by kernel_rfl)⟩
theorem ok91 : FnOk cfg Go.Proofs.Tryz.prog 91 Go.Proofs.Tryz.f91 := ⟨Go.Proofs.Tryz.func91, by kernel_rfl, body_q (by kernel_rfl)⟩
theorem ok92 : FnOk cfg Go.Proofs.Tryz.prog 92 Go.Proofs.Tryz.f92 := ⟨Go.Proofs.Tryz.func92, by kernel_rfl, body_q (by kernel_rfl)⟩
theorem ok94 : FnOk cfg Go.Proofs.Tryz.prog 94 Go.Proofs.Tryz.f94 := ⟨Go.Proofs.Tryz.func94, by kernel_rfl, body_q (by kernel_rfl)⟩
theorem ok102 : FnOk cfg Go.Proofs.Tryz.prog 102 Go.Proofs.Tryz.f102 := ⟨Go.Proofs.Tryz.func102, by kernel_rfl, body_q (by kernel_rfl)⟩
theorem ok103 : FnOk cfg Go.Proofs.Tryz.prog 103 Go.Proofs.Tryz.f103 := ⟨Go.Proofs.Tryz.func103, by kernel_rfl, body_q (by kernel_rfl)⟩
theorem ok104 : FnOk cfg Go.Proofs.Tryz.prog 104 Go.Proofs.Tryz.f104 := ⟨Go.Proofs.Tryz.func104, by kernel_rfl, body_q (by kernel_rfl)⟩
theorem ok108 : FnOk cfg Go.Proofs.Tryz.prog 108 Go.Proofs.Tryz.f108 := ⟨Go.Proofs.Tryz.func108, by kernel_rfl, body_q (by kernel_rfl)⟩
theorem ok110 : FnOk cfg Go.Proofs.Tryz.prog 110 Go.Proofs.Tryz.f110 := ⟨Go.Proofs.Tryz.func110, by kernel_rfl, body_q (by kernel_rfl)⟩
theorem ok114 : FnOk cfg Go.Proofs.Tryz.prog 114 Go.Proofs.Tryz.f114 := ⟨Go.Proofs.Tryz.func114, by kernel_rfl, body_q (by kernel_rfl)⟩
theorem ok115 : FnOk cfg Go.Proofs.Tryz.prog 115 Go.Proofs.Tryz.f115 := ⟨Go.Proofs.Tryz.func115, by kernel_rfl, body_q (by kernel_rfl)⟩

end Go.Ev.Tryz
