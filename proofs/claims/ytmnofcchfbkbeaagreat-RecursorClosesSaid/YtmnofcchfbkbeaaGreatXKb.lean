/- The tables fit the program: functions,part 1 (written by gen2.py; own work). -/
import Derived.Test.YtmnofcchfbkbeaaGreatXd
namespace Go.Ev.Tryz
open Go.Ev Go.Proofs.Tryz

theorem ok6:FnOk cfg prog 6 f6:=⟨func6,by kernel_rfl,body_q (by kernel_rfl)⟩
theorem ok10:FnOk cfg prog 10 f10:=⟨func10,by kernel_rfl,body_q (by kernel_rfl)⟩
theorem ok13:FnOk cfg prog 13 f13:=⟨func13,by kernel_rfl,body_q (by kernel_rfl)⟩
theorem ok14:FnOk cfg prog 14 f14:=⟨func14,by kernel_rfl,body_q (by kernel_rfl)⟩
theorem ok16:FnOk cfg prog 16 f16:=⟨func16,by kernel_rfl,body_q (by kernel_rfl)⟩
theorem ok17:FnOk cfg prog 17 f17:=⟨func17,by kernel_rfl,body_q (by kernel_rfl)⟩
theorem ok19:FnOk cfg prog 19 f19:=⟨func19,by kernel_rfl,body_q (by kernel_rfl)⟩
theorem ok21:FnOk cfg prog 21 f21:=⟨func21,by kernel_rfl,body_q (by kernel_rfl)⟩
theorem ok23:FnOk cfg prog 23 f23:=⟨func23,by kernel_rfl,body_q (by kernel_rfl)⟩
theorem ok29:FnOk cfg prog 29 f29:=⟨func29,by kernel_rfl,body_q (by kernel_rfl)⟩
theorem ok31:FnOk cfg prog 31 f31:=⟨func31,by kernel_rfl,body_q (by kernel_rfl)⟩
theorem ok38:FnOk cfg prog 38 f38:=⟨func38,by kernel_rfl,body_q (by kernel_rfl)⟩
theorem ok51:FnOk cfg prog 51 f51:=⟨func51,by kernel_rfl,body_q (by kernel_rfl)⟩
theorem ok52:FnOk cfg prog 52 f52:=⟨func52,by kernel_rfl,body_q (by kernel_rfl)⟩
theorem ok56:FnOk cfg prog 56 f56:=⟨func56,by kernel_rfl,body_q (by kernel_rfl)⟩
theorem ok58:FnOk cfg prog 58 f58:=⟨func58,by kernel_rfl,body_q (by kernel_rfl)⟩
theorem ok59:FnOk cfg prog 59 f59:=⟨func59,by kernel_rfl,body_q (by kernel_rfl)⟩
theorem ok74:FnOk cfg prog 74 f74:=⟨func74,by kernel_rfl,body_q (by kernel_rfl)⟩
theorem ok78:FnOk cfg prog 78 f78:=⟨func78,by kernel_rfl,body_q (by kernel_rfl)⟩
theorem ok84:FnOk cfg prog 84 f84:=⟨func84,by kernel_rfl,body_q (by kernel_rfl)⟩
theorem ok89:FnOk cfg prog 89 f89:=⟨func89,by kernel_rfl,body_q (by kernel_rfl)⟩
theorem ok91:FnOk cfg prog 91 f91:=⟨func91,by kernel_rfl,body_q (by kernel_rfl)⟩
theorem ok94:FnOk cfg prog 94 f94:=⟨func94,by kernel_rfl,body_q (by kernel_rfl)⟩
theorem ok97:FnOk cfg prog 97 f97:=⟨func97,by kernel_rfl,body_q (by kernel_rfl)⟩
theorem ok101:FnOk cfg prog 101 f101:=⟨func101,by kernel_rfl,body_q (by kernel_rfl)⟩
theorem ok107:FnOk cfg prog 107 f107:=⟨func107,by kernel_rfl,body_q (by kernel_rfl)⟩
theorem ok113:FnOk cfg prog 113 f113:=⟨func113,by kernel_rfl,body_q (by kernel_rfl)⟩
theorem ok115:FnOk cfg prog 115 f115:=⟨func115,by kernel_rfl,body_q (by kernel_rfl)⟩
theorem ok121:FnOk cfg prog 121 f121:=⟨func121,by kernel_rfl,body_q (by kernel_rfl)⟩
theorem ok123:FnOk cfg prog 123 f123:=⟨func123,by kernel_rfl,body_q (by kernel_rfl)⟩
theorem ok128:FnOk cfg prog 128 f128:=⟨func128,by kernel_rfl,body_q (by kernel_rfl)⟩
theorem ok129:FnOk cfg prog 129 f129:=⟨func129,by kernel_rfl,body_q (by kernel_rfl)⟩
theorem ok130:FnOk cfg prog 130 f130:=⟨func130,by kernel_rfl,body_q (by kernel_rfl)⟩
theorem ok132:FnOk cfg prog 132 f132:=⟨func132,by kernel_rfl,body_q (by kernel_rfl)⟩
theorem ok139:FnOk cfg prog 139 f139:=⟨func139,by kernel_rfl,body_q (by kernel_rfl)⟩
theorem ok142:FnOk cfg prog 142 f142:=⟨func142,by kernel_rfl,body_q (by kernel_rfl)⟩
theorem ok144:FnOk cfg prog 144 f144:=⟨func144,by kernel_rfl,body_q (by kernel_rfl)⟩
theorem ok148:FnOk cfg prog 148 f148:=⟨func148,by kernel_rfl,body_q (by kernel_rfl)⟩
theorem ok157:FnOk cfg prog 157 f157:=⟨func157,by kernel_rfl,body_q (by kernel_rfl)⟩
theorem ok160:FnOk cfg prog 160 f160:=⟨func160,by kernel_rfl,body_q (by kernel_rfl)⟩
theorem ok164:FnOk cfg prog 164 f164:=⟨func164,by kernel_rfl,body_q (by kernel_rfl)⟩
theorem ok165:FnOk cfg prog 165 f165:=⟨func165,by kernel_rfl,body_q (by kernel_rfl)⟩
theorem ok168:FnOk cfg prog 168 f168:=⟨func168,by kernel_rfl,body_q (by kernel_rfl)⟩
theorem ok184:FnOk cfg prog 184 f184:=⟨func184,by kernel_rfl,body_q (by kernel_rfl)⟩
theorem ok203:FnOk cfg prog 203 f203:=⟨func203,by kernel_rfl,body_q (by kernel_rfl)⟩

end Go.Ev.Tryz
