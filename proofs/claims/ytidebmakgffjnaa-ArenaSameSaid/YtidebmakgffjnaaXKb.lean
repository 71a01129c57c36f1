/- The tables fit the program: functions, part 1 (written by gen2.py; own work). -/
import Derived.Test.YtidebmakgffjnaaXd
namespace Go.Ev.Try
open Go.Ev Go.Proofs

theorem ok3 : FnOk cfg Go.Proofs.Try.prog 3 Go.Proofs.Try.f3 := ⟨Go.Proofs.Try.func3, by kernel_rfl, by kernel_rfl⟩
theorem ok8 : FnOk cfg Go.Proofs.Try.prog 8 Go.Proofs.Try.f8 := ⟨Go.Proofs.Try.func8, by kernel_rfl, by kernel_rfl⟩
theorem ok10 : FnOk cfg Go.Proofs.Try.prog 10 Go.Proofs.Try.f10 := ⟨Go.Proofs.Try.func10, by kernel_rfl, by kernel_rfl⟩
theorem ok12 : FnOk cfg Go.Proofs.Try.prog 12 Go.Proofs.Try.f12 := ⟨Go.Proofs.Try.func12, by kernel_rfl, by kernel_rfl⟩
theorem ok22 : FnOk cfg Go.Proofs.Try.prog 22 Go.Proofs.Try.f22 := ⟨Go.Proofs.Try.func22, by kernel_rfl, by kernel_rfl⟩
theorem ok24 : FnOk cfg Go.Proofs.Try.prog 24 Go.Proofs.Try.f24 := ⟨Go.Proofs.Try.func24, by kernel_rfl, by kernel_rfl⟩
theorem ok33 : FnOk cfg Go.Proofs.Try.prog 33 Go.Proofs.Try.f33 := ⟨Go.Proofs.Try.func33, by kernel_rfl, by kernel_rfl⟩
theorem ok38 : FnOk cfg Go.Proofs.Try.prog 38 Go.Proofs.Try.f38 := ⟨Go.Proofs.Try.func38, by kernel_rfl, by kernel_rfl⟩
theorem ok49 : FnOk cfg Go.Proofs.Try.prog 49 Go.Proofs.Try.f49 := ⟨Go.Proofs.Try.func49, by kernel_rfl, by kernel_rfl⟩
theorem ok57 : FnOk cfg Go.Proofs.Try.prog 57 Go.Proofs.Try.f57 := ⟨Go.Proofs.Try.func57, by kernel_rfl, by kernel_rfl⟩
theorem ok58 : FnOk cfg Go.Proofs.Try.prog 58 Go.Proofs.Try.f58 := ⟨Go.Proofs.Try.func58, by kernel_rfl, by kernel_rfl⟩
theorem ok62 : FnOk cfg Go.Proofs.Try.prog 62 Go.Proofs.Try.f62 := ⟨Go.Proofs.Try.func62, by kernel_rfl, by kernel_rfl⟩
theorem ok67 : FnOk cfg Go.Proofs.Try.prog 67 Go.Proofs.Try.f67 := ⟨Go.Proofs.Try.func67, by kernel_rfl, by kernel_rfl⟩
theorem ok69 : FnOk cfg Go.Proofs.Try.prog 69 Go.Proofs.Try.f69 := ⟨Go.Proofs.Try.func69, by kernel_rfl, by kernel_rfl⟩
theorem ok70 : FnOk cfg Go.Proofs.Try.prog 70 Go.Proofs.Try.f70 := ⟨Go.Proofs.Try.func70, by kernel_rfl, by kernel_rfl⟩
theorem ok72 : FnOk cfg Go.Proofs.Try.prog 72 Go.Proofs.Try.f72 := ⟨Go.Proofs.Try.func72, by kernel_rfl, by kernel_rfl⟩
theorem ok74 : FnOk cfg Go.Proofs.Try.prog 74 Go.Proofs.Try.f74 := ⟨Go.Proofs.Try.func74, by kernel_rfl, by kernel_rfl⟩
theorem ok82 : FnOk cfg Go.Proofs.Try.prog 82 Go.Proofs.Try.f82 := ⟨Go.Proofs.Try.func82, by kernel_rfl, by kernel_rfl⟩
theorem ok85 : FnOk cfg Go.Proofs.Try.prog 85 Go.Proofs.Try.f85 := ⟨Go.Proofs.Try.func85, by kernel_rfl, by kernel_rfl⟩
theorem ok88 : FnOk cfg Go.Proofs.Try.prog 88 Go.Proofs.Try.f88 := ⟨Go.Proofs.Try.func88, by kernel_rfl, by kernel_rfl⟩
theorem ok96 : FnOk cfg Go.Proofs.Try.prog 96 Go.Proofs.Try.f96 := ⟨Go.Proofs.Try.func96, by kernel_rfl, by kernel_rfl⟩
theorem ok97 : FnOk cfg Go.Proofs.Try.prog 97 Go.Proofs.Try.f97 := ⟨Go.Proofs.Try.func97, by kernel_rfl, by kernel_rfl⟩
theorem ok99 : FnOk cfg Go.Proofs.Try.prog 99 Go.Proofs.Try.f99 := ⟨Go.Proofs.Try.func99, by kernel_rfl, by kernel_rfl⟩
theorem ok101 : FnOk cfg Go.Proofs.Try.prog 101 Go.Proofs.Try.f101 := ⟨Go.Proofs.Try.func101, by kernel_rfl, by kernel_rfl⟩
theorem ok103 : FnOk cfg Go.Proofs.Try.prog 103 Go.Proofs.Try.f103 := ⟨Go.Proofs.Try.func103, by kernel_rfl, by kernel_rfl⟩
theorem ok106 : FnOk cfg Go.Proofs.Try.prog 106 Go.Proofs.Try.f106 := ⟨Go.Proofs.Try.func106, by kernel_rfl, by kernel_rfl⟩
theorem ok110 : FnOk cfg Go.Proofs.Try.prog 110 Go.Proofs.Try.f110 := ⟨Go.Proofs.Try.func110, by kernel_rfl, by kernel_rfl⟩
theorem ok113 : FnOk cfg Go.Proofs.Try.prog 113 Go.Proofs.Try.f113 := ⟨Go.Proofs.Try.func113, by kernel_rfl, by kernel_rfl⟩
theorem ok117 : FnOk cfg Go.Proofs.Try.prog 117 Go.Proofs.Try.f117 := ⟨Go.Proofs.Try.func117, by kernel_rfl, by kernel_rfl⟩
theorem ok118 : FnOk cfg Go.Proofs.Try.prog 118 Go.Proofs.Try.f118 := ⟨Go.Proofs.Try.func118, by kernel_rfl, by kernel_rfl⟩
theorem ok120 : FnOk cfg Go.Proofs.Try.prog 120 Go.Proofs.Try.f120 := ⟨Go.Proofs.Try.func120, by kernel_rfl, by kernel_rfl⟩
theorem ok126 : FnOk cfg Go.Proofs.Try.prog 126 Go.Proofs.Try.f126 := ⟨Go.Proofs.Try.func126, by kernel_rfl, by kernel_rfl⟩

end Go.Ev.Try
