/- The tables fit the program: functions,part 2 (written by gen2.py; own work). -/
import Derived.Test.YtmnofcchfbkbeaaGreatXd
namespace Go.Ev.Tryz
open Go.Ev Go.Proofs.Tryz

theorem ok3:FnOk cfg prog 3 f3:=⟨func3,by kernel_rfl,body_q (by kernel_rfl)⟩
theorem ok9:FnOk cfg prog 9 f9:=⟨func9,by kernel_rfl,body_q (by kernel_rfl)⟩
theorem ok11:FnOk cfg prog 11 f11:=⟨func11,by kernel_rfl,body_q (by kernel_rfl)⟩
theorem ok12:FnOk cfg prog 12 f12:=⟨func12,by kernel_rfl,body_q (by kernel_rfl)⟩
theorem ok15:FnOk cfg prog 15 f15:=⟨func15,by kernel_rfl,body_q (by kernel_rfl)⟩
theorem ok26:FnOk cfg prog 26 f26:=⟨func26,by kernel_rfl,body_q (by kernel_rfl)⟩
theorem ok30:FnOk cfg prog 30 f30:=⟨func30,by kernel_rfl,body_q (by kernel_rfl)⟩
theorem ok32:FnOk cfg prog 32 f32:=⟨func32,by kernel_rfl,body_q (by kernel_rfl)⟩
theorem ok40:FnOk cfg prog 40 f40:=⟨func40,by kernel_rfl,body_q (by kernel_rfl)⟩
theorem ok43:FnOk cfg prog 43 f43:=⟨func43,by kernel_rfl,body_q (by kernel_rfl)⟩
theorem ok49:FnOk cfg prog 49 f49:=⟨func49,by kernel_rfl,body_q (by kernel_rfl)⟩
theorem ok53:FnOk cfg prog 53 f53:=⟨func53,by kernel_rfl,body_q (by kernel_rfl)⟩
theorem ok54:FnOk cfg prog 54 f54:=⟨func54,by kernel_rfl,body_q (by kernel_rfl)⟩
theorem ok57:FnOk cfg prog 57 f57:=⟨func57,by kernel_rfl,body_q (by kernel_rfl)⟩
theorem ok65:FnOk cfg prog 65 f65:=⟨func65,by kernel_rfl,body_q (by kernel_rfl)⟩
theorem ok68:FnOk cfg prog 68 f68:=⟨func68,by kernel_rfl,body_q (by kernel_rfl)⟩
theorem ok69:FnOk cfg prog 69 f69:=⟨func69,by kernel_rfl,body_q (by kernel_rfl)⟩
theorem ok72:FnOk cfg prog 72 f72:=⟨func72,by kernel_rfl,body_q (by kernel_rfl)⟩
theorem ok73:FnOk cfg prog 73 f73:=⟨func73,by kernel_rfl,body_q (by kernel_rfl)⟩
theorem ok77:FnOk cfg prog 77 f77:=⟨func77,by kernel_rfl,body_q (by kernel_rfl)⟩
theorem ok79:FnOk cfg prog 79 f79:=⟨func79,by kernel_rfl,body_q (by kernel_rfl)⟩
theorem ok80:FnOk cfg prog 80 f80:=⟨func80,by kernel_rfl,body_q (by kernel_rfl)⟩
theorem ok81:FnOk cfg prog 81 f81:=⟨func81,by kernel_rfl,body_q (by kernel_rfl)⟩
theorem ok82:FnOk cfg prog 82 f82:=⟨func82,by kernel_rfl,body_q (by kernel_rfl)⟩
theorem ok92:FnOk cfg prog 92 f92:=⟨func92,by kernel_rfl,body_q (by kernel_rfl)⟩
theorem ok93:FnOk cfg prog 93 f93:=⟨func93,by kernel_rfl,body_q (by kernel_rfl)⟩
theorem ok95:FnOk cfg prog 95 f95:=⟨func95,by kernel_rfl,body_q (by kernel_rfl)⟩
theorem ok109:FnOk cfg prog 109 f109:=⟨func109,by kernel_rfl,body_q (by kernel_rfl)⟩
theorem ok114:FnOk cfg prog 114 f114:=⟨func114,by kernel_rfl,body_q (by kernel_rfl)⟩
theorem ok116:FnOk cfg prog 116 f116:=⟨func116,by kernel_rfl,body_q (by kernel_rfl)⟩
theorem ok124:FnOk cfg prog 124 f124:=⟨func124,by kernel_rfl,body_q (by kernel_rfl)⟩
theorem ok126:FnOk cfg prog 126 f126:=⟨func126,by kernel_rfl,body_q (by kernel_rfl)⟩
theorem ok127:FnOk cfg prog 127 f127:=⟨func127,by kernel_rfl,body_q (by kernel_rfl)⟩
theorem ok133:FnOk cfg prog 133 f133:=⟨func133,by kernel_rfl,body_q (by kernel_rfl)⟩
theorem ok137:FnOk cfg prog 137 f137:=⟨func137,by kernel_rfl,body_q (by kernel_rfl)⟩
theorem ok146:FnOk cfg prog 146 f146:=⟨func146,by kernel_rfl,body_q (by kernel_rfl)⟩
theorem ok150:FnOk cfg prog 150 f150:=⟨func150,by kernel_rfl,body_q (by kernel_rfl)⟩
theorem ok153:FnOk cfg prog 153 f153:=⟨func153,by kernel_rfl,body_q (by kernel_rfl)⟩
theorem ok154:FnOk cfg prog 154 f154:=⟨func154,by kernel_rfl,body_q (by kernel_rfl)⟩
theorem ok185:FnOk cfg prog 185 f185:=⟨func185,by kernel_rfl,body_q (by kernel_rfl)⟩
theorem ok187:FnOk cfg prog 187 f187:=⟨func187,by kernel_rfl,body_q (by kernel_rfl)⟩
theorem ok191:FnOk cfg prog 191 f191:=⟨func191,by kernel_rfl,body_q (by kernel_rfl)⟩
theorem ok192:FnOk cfg prog 192 f192:=⟨func192,by kernel_rfl,body_q (by kernel_rfl)⟩
theorem ok200:FnOk cfg prog 200 f200:=⟨func200,by kernel_rfl,body_q (by kernel_rfl)⟩
theorem ok201:FnOk cfg prog 201 f201:=⟨func201,by kernel_rfl,body_q (by kernel_rfl)⟩

end Go.Ev.Tryz
