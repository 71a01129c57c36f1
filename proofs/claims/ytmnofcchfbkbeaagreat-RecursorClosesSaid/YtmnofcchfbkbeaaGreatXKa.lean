/- The tables fit the program: functions,part 0 (written by gen2.py; own work). -/
import Derived.Test.YtmnofcchfbkbeaaGreatXd
namespace Go.Ev.Tryz
open Go.Ev Go.Proofs.Tryz

theorem ok4:FnOk cfg prog 4 f4:=⟨func4,by kernel_rfl,body_q (by kernel_rfl)⟩
theorem ok5:FnOk cfg prog 5 f5:=⟨func5,by kernel_rfl,body_q (by kernel_rfl)⟩
theorem ok7:FnOk cfg prog 7 f7:=⟨func7,by kernel_rfl,body_q (by kernel_rfl)⟩
theorem ok20:FnOk cfg prog 20 f20:=⟨func20,by kernel_rfl,body_q (by kernel_rfl)⟩
theorem ok24:FnOk cfg prog 24 f24:=⟨func24,by kernel_rfl,body_q (by kernel_rfl)⟩
theorem ok25:FnOk cfg prog 25 f25:=⟨func25,by kernel_rfl,body_q (by kernel_rfl)⟩
theorem ok28:FnOk cfg prog 28 f28:=⟨func28,by kernel_rfl,body_q (by kernel_rfl)⟩
theorem ok33:FnOk cfg prog 33 f33:=⟨func33,by kernel_rfl,body_q (by kernel_rfl)⟩
theorem ok34:FnOk cfg prog 34 f34:=⟨func34,by kernel_rfl,body_q (by kernel_rfl)⟩
theorem ok35:FnOk cfg prog 35 f35:=⟨func35,by kernel_rfl,body_q (by kernel_rfl)⟩
theorem ok36:FnOk cfg prog 36 f36:=⟨func36,by kernel_rfl,body_q (by kernel_rfl)⟩
theorem ok41:FnOk cfg prog 41 f41:=⟨func41,by kernel_rfl,body_q (by kernel_rfl)⟩
theorem ok42:FnOk cfg prog 42 f42:=⟨func42,by kernel_rfl,body_q (by kernel_rfl)⟩
theorem ok44:FnOk cfg prog 44 f44:=⟨func44,by kernel_rfl,body_q (by kernel_rfl)⟩
theorem ok47:FnOk cfg prog 47 f47:=⟨func47,by kernel_rfl,body_q (by kernel_rfl)⟩
theorem ok48:FnOk cfg prog 48 f48:=⟨func48,by kernel_rfl,body_q (by kernel_rfl)⟩
theorem ok55:FnOk cfg prog 55 f55:=⟨func55,by kernel_rfl,body_q (by kernel_rfl)⟩
theorem ok60:FnOk cfg prog 60 f60:=⟨func60,by kernel_rfl,body_q (by kernel_rfl)⟩
theorem ok61:FnOk cfg prog 61 f61:=⟨func61,by kernel_rfl,body_q (by kernel_rfl)⟩
theorem ok62:FnOk cfg prog 62 f62:=⟨func62,by kernel_rfl,body_q (by kernel_rfl)⟩
theorem ok83:FnOk cfg prog 83 f83:=⟨func83,by kernel_rfl,body_q (by kernel_rfl)⟩
theorem ok85:FnOk cfg prog 85 f85:=⟨func85,by kernel_rfl,body_q (by kernel_rfl)⟩
theorem ok90:FnOk cfg prog 90 f90:=⟨func90,by kernel_rfl,body_q (by kernel_rfl)⟩
theorem ok103:FnOk cfg prog 103 f103:=⟨func103,by kernel_rfl,body_q (by kernel_rfl)⟩
theorem ok104:FnOk cfg prog 104 f104:=⟨func104,by kernel_rfl,body_q (by kernel_rfl)⟩
theorem ok105:FnOk cfg prog 105 f105:=⟨func105,by kernel_rfl,body_q (by kernel_rfl)⟩
theorem ok117:FnOk cfg prog 117 f117:=⟨func117,by kernel_rfl,body_q (by kernel_rfl)⟩
theorem ok120:FnOk cfg prog 120 f120:=⟨func120,by kernel_rfl,body_q (by kernel_rfl)⟩
theorem ok125:FnOk cfg prog 125 f125:=⟨func125,by kernel_rfl,body_q (by kernel_rfl)⟩
theorem ok135:FnOk cfg prog 135 f135:=⟨func135,by kernel_rfl,body_q (by kernel_rfl)⟩
theorem ok143:FnOk cfg prog 143 f143:=⟨func143,by kernel_rfl,body_q (by kernel_rfl)⟩
theorem ok145:FnOk cfg prog 145 f145:=⟨func145,by kernel_rfl,body_q (by kernel_rfl)⟩
theorem ok155:FnOk cfg prog 155 f155:=⟨func155,by kernel_rfl,body_q (by kernel_rfl)⟩
theorem ok159:FnOk cfg prog 159 f159:=⟨func159,by kernel_rfl,body_q (by kernel_rfl)⟩
theorem ok161:FnOk cfg prog 161 f161:=⟨func161,by kernel_rfl,body_q (by kernel_rfl)⟩
theorem ok162:FnOk cfg prog 162 f162:=⟨func162,by kernel_rfl,body_q (by kernel_rfl)⟩
theorem ok163:FnOk cfg prog 163 f163:=⟨func163,by kernel_rfl,body_q (by kernel_rfl)⟩
theorem ok166:FnOk cfg prog 166 f166:=⟨func166,by kernel_rfl,body_q (by kernel_rfl)⟩
theorem ok169:FnOk cfg prog 169 f169:=⟨func169,by kernel_rfl,body_q (by kernel_rfl)⟩
theorem ok182:FnOk cfg prog 182 f182:=⟨func182,by kernel_rfl,body_q (by kernel_rfl)⟩
theorem ok186:FnOk cfg prog 186 f186:=⟨func186,by kernel_rfl,body_q (by kernel_rfl)⟩
theorem ok188:FnOk cfg prog 188 f188:=⟨func188,by kernel_rfl,body_q (by kernel_rfl)⟩
theorem ok190:FnOk cfg prog 190 f190:=⟨func190,by kernel_rfl,body_q (by kernel_rfl)⟩
theorem ok193:FnOk cfg prog 193 f193:=⟨func193,by kernel_rfl,body_q (by kernel_rfl)⟩
theorem ok205:FnOk cfg prog 205 f205:=⟨func205,by kernel_rfl,body_q (by kernel_rfl)⟩

end Go.Ev.Tryz
