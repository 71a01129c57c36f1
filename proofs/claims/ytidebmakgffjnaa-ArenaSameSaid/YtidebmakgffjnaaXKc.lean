/- The tables fit the program: functions, part 2 (written by gen2.py; own work). -/
import Derived.Test.YtidebmakgffjnaaXd
namespace Go.Ev.Try
open Go.Ev Go.Proofs

theorem ok4 : FnOk cfg Go.Proofs.Try.prog 4 Go.Proofs.Try.f4 := ⟨Go.Proofs.Try.func4, by kernel_rfl, by kernel_rfl⟩
theorem ok5 : FnOk cfg Go.Proofs.Try.prog 5 Go.Proofs.Try.f5 := ⟨Go.Proofs.Try.func5, by kernel_rfl, by kernel_rfl⟩
theorem ok7 : FnOk cfg Go.Proofs.Try.prog 7 Go.Proofs.Try.f7 := ⟨Go.Proofs.Try.func7, by kernel_rfl, by kernel_rfl⟩
theorem ok9 : FnOk cfg Go.Proofs.Try.prog 9 Go.Proofs.Try.f9 := ⟨Go.Proofs.Try.func9, by kernel_rfl, by kernel_rfl⟩
theorem ok28 : FnOk cfg Go.Proofs.Try.prog 28 Go.Proofs.Try.f28 := ⟨Go.Proofs.Try.func28, by kernel_rfl, by kernel_rfl⟩
theorem ok31 : FnOk cfg Go.Proofs.Try.prog 31 Go.Proofs.Try.f31 := ⟨Go.Proofs.Try.func31, by kernel_rfl, by kernel_rfl⟩
theorem ok34 : FnOk cfg Go.Proofs.Try.prog 34 Go.Proofs.Try.f34 := ⟨Go.Proofs.Try.func34, by kernel_rfl, by kernel_rfl⟩
theorem ok39 : FnOk cfg Go.Proofs.Try.prog 39 Go.Proofs.Try.f39 := ⟨Go.Proofs.Try.func39, by kernel_rfl, by kernel_rfl⟩
theorem ok43 : FnOk cfg Go.Proofs.Try.prog 43 Go.Proofs.Try.f43 := ⟨Go.Proofs.Try.func43, by kernel_rfl, by kernel_rfl⟩
theorem ok44 : FnOk cfg Go.Proofs.Try.prog 44 Go.Proofs.Try.f44 := ⟨Go.Proofs.Try.func44, by kernel_rfl, by kernel_rfl⟩
theorem ok45 : FnOk cfg Go.Proofs.Try.prog 45 Go.Proofs.Try.f45 := ⟨Go.Proofs.Try.func45, by kernel_rfl, by kernel_rfl⟩
theorem ok50 : FnOk cfg Go.Proofs.Try.prog 50 Go.Proofs.Try.f50 := ⟨Go.Proofs.Try.func50, by kernel_rfl, by kernel_rfl⟩
theorem ok51 : FnOk cfg Go.Proofs.Try.prog 51 Go.Proofs.Try.f51 := ⟨Go.Proofs.Try.func51, by kernel_rfl, by kernel_rfl⟩
theorem ok54 : FnOk cfg Go.Proofs.Try.prog 54 Go.Proofs.Try.f54 := ⟨Go.Proofs.Try.func54, by kernel_rfl, by kernel_rfl⟩
theorem ok56 : FnOk cfg Go.Proofs.Try.prog 56 Go.Proofs.Try.f56 := ⟨Go.Proofs.Try.func56, by kernel_rfl, by kernel_rfl⟩
theorem ok59 : FnOk cfg Go.Proofs.Try.prog 59 Go.Proofs.Try.f59 := ⟨Go.Proofs.Try.func59, by kernel_rfl, by kernel_rfl⟩
theorem ok68 : FnOk cfg Go.Proofs.Try.prog 68 Go.Proofs.Try.f68 := ⟨Go.Proofs.Try.func68, by kernel_rfl, by kernel_rfl⟩
theorem ok71 : FnOk cfg Go.Proofs.Try.prog 71 Go.Proofs.Try.f71 := ⟨Go.Proofs.Try.func71, by kernel_rfl, by kernel_rfl⟩
theorem ok78 : FnOk cfg Go.Proofs.Try.prog 78 Go.Proofs.Try.f78 := ⟨Go.Proofs.Try.func78, by kernel_rfl, by kernel_rfl⟩
theorem ok80 : FnOk cfg Go.Proofs.Try.prog 80 Go.Proofs.Try.f80 := ⟨Go.Proofs.Try.func80, by kernel_rfl, by kernel_rfl⟩
theorem ok81 : FnOk cfg Go.Proofs.Try.prog 81 Go.Proofs.Try.f81 := ⟨Go.Proofs.Try.func81, by kernel_rfl, by kernel_rfl⟩
theorem ok86 : FnOk cfg Go.Proofs.Try.prog 86 Go.Proofs.Try.f86 := ⟨Go.Proofs.Try.func86, by kernel_rfl, by kernel_rfl⟩
theorem ok90 : FnOk cfg Go.Proofs.Try.prog 90 Go.Proofs.Try.f90 := ⟨Go.Proofs.Try.func90, by kernel_rfl, by kernel_rfl⟩
theorem ok100 : FnOk cfg Go.Proofs.Try.prog 100 Go.Proofs.Try.f100 := ⟨Go.Proofs.Try.func100, by kernel_rfl, by kernel_rfl⟩
theorem ok115 : FnOk cfg Go.Proofs.Try.prog 115 Go.Proofs.Try.f115 := ⟨Go.Proofs.Try.func115, by kernel_rfl, by kernel_rfl⟩
theorem ok121 : FnOk cfg Go.Proofs.Try.prog 121 Go.Proofs.Try.f121 := ⟨Go.Proofs.Try.func121, by kernel_rfl, by kernel_rfl⟩
theorem ok123 : FnOk cfg Go.Proofs.Try.prog 123 Go.Proofs.Try.f123 := ⟨Go.Proofs.Try.func123, by kernel_rfl, by kernel_rfl⟩
theorem ok124 : FnOk cfg Go.Proofs.Try.prog 124 Go.Proofs.Try.f124 := ⟨Go.Proofs.Try.func124, by kernel_rfl, by kernel_rfl⟩
theorem ok125 : FnOk cfg Go.Proofs.Try.prog 125 Go.Proofs.Try.f125 := ⟨Go.Proofs.Try.func125, by kernel_rfl, by kernel_rfl⟩
theorem ok127 : FnOk cfg Go.Proofs.Try.prog 127 Go.Proofs.Try.f127 := ⟨Go.Proofs.Try.func127, by kernel_rfl, by kernel_rfl⟩
theorem ok130 : FnOk cfg Go.Proofs.Try.prog 130 Go.Proofs.Try.f130 := ⟨Go.Proofs.Try.func130, by kernel_rfl, by kernel_rfl⟩
theorem ok131 : FnOk cfg Go.Proofs.Try.prog 131 Go.Proofs.Try.f131 := ⟨Go.Proofs.Try.func131, by kernel_rfl, by kernel_rfl⟩

end Go.Ev.Try
