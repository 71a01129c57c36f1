/- The tables fit the program: functions, part 0 (written by gen2.py; own work). -/
import Derived.Test.YtidebmakgffjnaaXd
namespace Go.Ev.Try
open Go.Ev Go.Proofs

theorem ok13 : FnOk cfg Go.Proofs.Try.prog 13 Go.Proofs.Try.f13 := ⟨Go.Proofs.Try.func13, by kernel_rfl, by kernel_rfl⟩
theorem ok15 : FnOk cfg Go.Proofs.Try.prog 15 Go.Proofs.Try.f15 := ⟨Go.Proofs.Try.func15, by kernel_rfl, by kernel_rfl⟩
theorem ok16 : FnOk cfg Go.Proofs.Try.prog 16 Go.Proofs.Try.f16 := ⟨Go.Proofs.Try.func16, by kernel_rfl, by kernel_rfl⟩
theorem ok17 : FnOk cfg Go.Proofs.Try.prog 17 Go.Proofs.Try.f17 := ⟨Go.Proofs.Try.func17, by kernel_rfl, by kernel_rfl⟩
theorem ok18 : FnOk cfg Go.Proofs.Try.prog 18 Go.Proofs.Try.f18 := ⟨Go.Proofs.Try.func18, by kernel_rfl, by kernel_rfl⟩
theorem ok20 : FnOk cfg Go.Proofs.Try.prog 20 Go.Proofs.Try.f20 := ⟨Go.Proofs.Try.func20, by kernel_rfl, by kernel_rfl⟩
theorem ok23 : FnOk cfg Go.Proofs.Try.prog 23 Go.Proofs.Try.f23 := ⟨Go.Proofs.Try.func23, by kernel_rfl, by kernel_rfl⟩
theorem ok29 : FnOk cfg Go.Proofs.Try.prog 29 Go.Proofs.Try.f29 := ⟨Go.Proofs.Try.func29, by kernel_rfl, by kernel_rfl⟩
theorem ok41 : FnOk cfg Go.Proofs.Try.prog 41 Go.Proofs.Try.f41 := ⟨Go.Proofs.Try.func41, by kernel_rfl, by kernel_rfl⟩
theorem ok60 : FnOk cfg Go.Proofs.Try.prog 60 Go.Proofs.Try.f60 := ⟨Go.Proofs.Try.func60, by kernel_rfl, by kernel_rfl⟩
theorem ok63 : FnOk cfg Go.Proofs.Try.prog 63 Go.Proofs.Try.f63 := ⟨Go.Proofs.Try.func63, by kernel_rfl, by kernel_rfl⟩
theorem ok65 : FnOk cfg Go.Proofs.Try.prog 65 Go.Proofs.Try.f65 := ⟨Go.Proofs.Try.func65, by kernel_rfl, by kernel_rfl⟩
theorem ok66 : FnOk cfg Go.Proofs.Try.prog 66 Go.Proofs.Try.f66 := ⟨Go.Proofs.Try.func66, by kernel_rfl, by kernel_rfl⟩
theorem ok75 : FnOk cfg Go.Proofs.Try.prog 75 Go.Proofs.Try.f75 := ⟨Go.Proofs.Try.func75, by kernel_rfl, by kernel_rfl⟩
theorem ok76 : FnOk cfg Go.Proofs.Try.prog 76 Go.Proofs.Try.f76 := ⟨Go.Proofs.Try.func76, by kernel_rfl, by kernel_rfl⟩
theorem ok77 : FnOk cfg Go.Proofs.Try.prog 77 Go.Proofs.Try.f77 := ⟨Go.Proofs.Try.func77, by kernel_rfl, by kernel_rfl⟩
theorem ok79 : FnOk cfg Go.Proofs.Try.prog 79 Go.Proofs.Try.f79 := ⟨Go.Proofs.Try.func79, by kernel_rfl, by kernel_rfl⟩
theorem ok83 : FnOk cfg Go.Proofs.Try.prog 83 Go.Proofs.Try.f83 := ⟨Go.Proofs.Try.func83, by kernel_rfl, by kernel_rfl⟩
theorem ok87 : FnOk cfg Go.Proofs.Try.prog 87 Go.Proofs.Try.f87 := ⟨Go.Proofs.Try.func87, by kernel_rfl, by kernel_rfl⟩
theorem ok89 : FnOk cfg Go.Proofs.Try.prog 89 Go.Proofs.Try.f89 := ⟨Go.Proofs.Try.func89, by kernel_rfl, by kernel_rfl⟩
theorem ok92 : FnOk cfg Go.Proofs.Try.prog 92 Go.Proofs.Try.f92 := ⟨Go.Proofs.Try.func92, by kernel_rfl, by kernel_rfl⟩
theorem ok93 : FnOk cfg Go.Proofs.Try.prog 93 Go.Proofs.Try.f93 := ⟨Go.Proofs.Try.func93, by kernel_rfl, by kernel_rfl⟩
theorem ok94 : FnOk cfg Go.Proofs.Try.prog 94 Go.Proofs.Try.f94 := ⟨Go.Proofs.Try.func94, by kernel_rfl, by kernel_rfl⟩
theorem ok95 : FnOk cfg Go.Proofs.Try.prog 95 Go.Proofs.Try.f95 := ⟨Go.Proofs.Try.func95, by kernel_rfl, by kernel_rfl⟩
theorem ok98 : FnOk cfg Go.Proofs.Try.prog 98 Go.Proofs.Try.f98 := ⟨Go.Proofs.Try.func98, by kernel_rfl, by kernel_rfl⟩
theorem ok104 : FnOk cfg Go.Proofs.Try.prog 104 Go.Proofs.Try.f104 := ⟨Go.Proofs.Try.func104, by kernel_rfl, by kernel_rfl⟩
theorem ok109 : FnOk cfg Go.Proofs.Try.prog 109 Go.Proofs.Try.f109 := ⟨Go.Proofs.Try.func109, by kernel_rfl, by kernel_rfl⟩
theorem ok111 : FnOk cfg Go.Proofs.Try.prog 111 Go.Proofs.Try.f111 := ⟨Go.Proofs.Try.func111, by kernel_rfl, by kernel_rfl⟩
theorem ok112 : FnOk cfg Go.Proofs.Try.prog 112 Go.Proofs.Try.f112 := ⟨Go.Proofs.Try.func112, by kernel_rfl, by kernel_rfl⟩
theorem ok116 : FnOk cfg Go.Proofs.Try.prog 116 Go.Proofs.Try.f116 := ⟨Go.Proofs.Try.func116, by kernel_rfl, by kernel_rfl⟩
theorem ok119 : FnOk cfg Go.Proofs.Try.prog 119 Go.Proofs.Try.f119 := ⟨Go.Proofs.Try.func119, by kernel_rfl, by kernel_rfl⟩
theorem ok129 : FnOk cfg Go.Proofs.Try.prog 129 Go.Proofs.Try.f129 := ⟨Go.Proofs.Try.func129, by kernel_rfl, by kernel_rfl⟩

end Go.Ev.Try
