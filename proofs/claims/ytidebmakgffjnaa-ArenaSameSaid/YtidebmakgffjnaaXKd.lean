/- The tables fit the program: functions, part 3 (written by gen2.py; own work). -/
import Derived.Test.YtidebmakgffjnaaXd
namespace Go.Ev.Try
open Go.Ev Go.Proofs

theorem ok6 : FnOk cfg Go.Proofs.Try.prog 6 Go.Proofs.Try.f6 := ⟨Go.Proofs.Try.func6, by kernel_rfl, by kernel_rfl⟩
theorem ok11 : FnOk cfg Go.Proofs.Try.prog 11 Go.Proofs.Try.f11 := ⟨Go.Proofs.Try.func11, by kernel_rfl, by kernel_rfl⟩
theorem ok14 : FnOk cfg Go.Proofs.Try.prog 14 Go.Proofs.Try.f14 := ⟨Go.Proofs.Try.func14, by kernel_rfl, by kernel_rfl⟩
theorem ok19 : FnOk cfg Go.Proofs.Try.prog 19 Go.Proofs.Try.f19 := ⟨Go.Proofs.Try.func19, by kernel_rfl, by kernel_rfl⟩
theorem ok21 : FnOk cfg Go.Proofs.Try.prog 21 Go.Proofs.Try.f21 := ⟨Go.Proofs.Try.func21, by kernel_rfl, by kernel_rfl⟩
theorem ok25 : FnOk cfg Go.Proofs.Try.prog 25 Go.Proofs.Try.f25 := ⟨Go.Proofs.Try.func25, by kernel_rfl, by kernel_rfl⟩
theorem ok26 : FnOk cfg Go.Proofs.Try.prog 26 Go.Proofs.Try.f26 := ⟨Go.Proofs.Try.func26, by kernel_rfl, by kernel_rfl⟩
theorem ok27 : FnOk cfg Go.Proofs.Try.prog 27 Go.Proofs.Try.f27 := ⟨Go.Proofs.Try.func27, by kernel_rfl, by kernel_rfl⟩
theorem ok30 : FnOk cfg Go.Proofs.Try.prog 30 Go.Proofs.Try.f30 := ⟨Go.Proofs.Try.func30, by kernel_rfl, by kernel_rfl⟩
theorem ok32 : FnOk cfg Go.Proofs.Try.prog 32 Go.Proofs.Try.f32 := ⟨Go.Proofs.Try.func32, by kernel_rfl, by kernel_rfl⟩
theorem ok35 : FnOk cfg Go.Proofs.Try.prog 35 Go.Proofs.Try.f35 := ⟨Go.Proofs.Try.func35, by kernel_rfl, by kernel_rfl⟩
theorem ok36 : FnOk cfg Go.Proofs.Try.prog 36 Go.Proofs.Try.f36 := ⟨Go.Proofs.Try.func36, by kernel_rfl, by kernel_rfl⟩
theorem ok37 : FnOk cfg Go.Proofs.Try.prog 37 Go.Proofs.Try.f37 := ⟨Go.Proofs.Try.func37, by kernel_rfl, by kernel_rfl⟩
theorem ok40 : FnOk cfg Go.Proofs.Try.prog 40 Go.Proofs.Try.f40 := ⟨Go.Proofs.Try.func40, by kernel_rfl, by kernel_rfl⟩
theorem ok42 : FnOk cfg Go.Proofs.Try.prog 42 Go.Proofs.Try.f42 := ⟨Go.Proofs.Try.func42, by kernel_rfl, by kernel_rfl⟩
theorem ok46 : FnOk cfg Go.Proofs.Try.prog 46 Go.Proofs.Try.f46 := ⟨Go.Proofs.Try.func46, by kernel_rfl, by kernel_rfl⟩
theorem ok47 : FnOk cfg Go.Proofs.Try.prog 47 Go.Proofs.Try.f47 := ⟨Go.Proofs.Try.func47, by kernel_rfl, by kernel_rfl⟩
theorem ok48 : FnOk cfg Go.Proofs.Try.prog 48 Go.Proofs.Try.f48 := ⟨Go.Proofs.Try.func48, by kernel_rfl, by kernel_rfl⟩
theorem ok52 : FnOk cfg Go.Proofs.Try.prog 52 Go.Proofs.Try.f52 := ⟨Go.Proofs.Try.func52, by kernel_rfl, by kernel_rfl⟩
theorem ok53 : FnOk cfg Go.Proofs.Try.prog 53 Go.Proofs.Try.f53 := ⟨Go.Proofs.Try.func53, by kernel_rfl, by kernel_rfl⟩
theorem ok55 : FnOk cfg Go.Proofs.Try.prog 55 Go.Proofs.Try.f55 := ⟨Go.Proofs.Try.func55, by kernel_rfl, by kernel_rfl⟩
theorem ok61 : FnOk cfg Go.Proofs.Try.prog 61 Go.Proofs.Try.f61 := ⟨Go.Proofs.Try.func61, by kernel_rfl, by kernel_rfl⟩
theorem ok64 : FnOk cfg Go.Proofs.Try.prog 64 Go.Proofs.Try.f64 := ⟨Go.Proofs.Try.func64, by kernel_rfl, by kernel_rfl⟩
theorem ok73 : FnOk cfg Go.Proofs.Try.prog 73 Go.Proofs.Try.f73 := ⟨Go.Proofs.Try.func73, by kernel_rfl, by kernel_rfl⟩
theorem ok84 : FnOk cfg Go.Proofs.Try.prog 84 Go.Proofs.Try.f84 := ⟨Go.Proofs.Try.func84, by kernel_rfl, by kernel_rfl⟩
theorem ok91 : FnOk cfg Go.Proofs.Try.prog 91 Go.Proofs.Try.f91 := ⟨Go.Proofs.Try.func91, by kernel_rfl, by kernel_rfl⟩
theorem ok102 : FnOk cfg Go.Proofs.Try.prog 102 Go.Proofs.Try.f102 := ⟨Go.Proofs.Try.func102, by kernel_rfl, by kernel_rfl⟩
theorem ok105 : FnOk cfg Go.Proofs.Try.prog 105 Go.Proofs.Try.f105 := ⟨Go.Proofs.Try.func105, by kernel_rfl, by kernel_rfl⟩
theorem ok108 : FnOk cfg Go.Proofs.Try.prog 108 Go.Proofs.Try.f108 := ⟨Go.Proofs.Try.func108, by kernel_rfl, by kernel_rfl⟩
theorem ok114 : FnOk cfg Go.Proofs.Try.prog 114 Go.Proofs.Try.f114 := ⟨Go.Proofs.Try.func114, by kernel_rfl, by kernel_rfl⟩
theorem ok122 : FnOk cfg Go.Proofs.Try.prog 122 Go.Proofs.Try.f122 := ⟨Go.Proofs.Try.func122, by kernel_rfl, by kernel_rfl⟩
theorem ok128 : FnOk cfg Go.Proofs.Try.prog 128 Go.Proofs.Try.f128 := ⟨Go.Proofs.Try.func128, by kernel_rfl, by kernel_rfl⟩

end Go.Ev.Try
