/- The tables fit the program: functions,part 3 (written by gen2.py; own work). -/
import Derived.Test.YtmnofcchfbkbeaaGreatXd
namespace Go.Ev.Tryz
open Go.Ev Go.Proofs.Tryz

theorem ok8:FnOk cfg prog 8 f8:=⟨func8,by kernel_rfl,body_q (by kernel_rfl)⟩
theorem ok18:FnOk cfg prog 18 f18:=⟨func18,by kernel_rfl,body_q (by kernel_rfl)⟩
theorem ok22:FnOk cfg prog 22 f22:=⟨func22,by kernel_rfl,body_q (by kernel_rfl)⟩
theorem ok27:FnOk cfg prog 27 f27:=⟨func27,by kernel_rfl,body_q (by kernel_rfl)⟩
theorem ok37:FnOk cfg prog 37 f37:=⟨func37,by kernel_rfl,body_q (by kernel_rfl)⟩
theorem ok39:FnOk cfg prog 39 f39:=⟨func39,by kernel_rfl,body_q (by kernel_rfl)⟩
theorem ok45:FnOk cfg prog 45 f45:=⟨func45,by kernel_rfl,body_q (by kernel_rfl)⟩
theorem ok46:FnOk cfg prog 46 f46:=⟨func46,by kernel_rfl,body_q (by kernel_rfl)⟩
theorem ok50:FnOk cfg prog 50 f50:=⟨func50,by kernel_rfl,body_q (by kernel_rfl)⟩
theorem ok63:FnOk cfg prog 63 f63:=⟨func63,by kernel_rfl,body_q (by kernel_rfl)⟩
theorem ok64:FnOk cfg prog 64 f64:=⟨func64,by kernel_rfl,body_q (by kernel_rfl)⟩
theorem ok66:FnOk cfg prog 66 f66:=⟨func66,by kernel_rfl,body_q (by kernel_rfl)⟩
theorem ok67:FnOk cfg prog 67 f67:=⟨func67,by kernel_rfl,body_q (by kernel_rfl)⟩
theorem ok70:FnOk cfg prog 70 f70:=⟨func70,by kernel_rfl,body_q (by kernel_rfl)⟩
theorem ok71:FnOk cfg prog 71 f71:=⟨func71,by kernel_rfl,body_q (by kernel_rfl)⟩
theorem ok75:FnOk cfg prog 75 f75:=⟨func75,by kernel_rfl,body_q (by kernel_rfl)⟩
theorem ok76:FnOk cfg prog 76 f76:=⟨func76,by kernel_rfl,body_q (by kernel_rfl)⟩
theorem ok86:FnOk cfg prog 86 f86:=⟨func86,by kernel_rfl,body_q (by kernel_rfl)⟩
theorem ok87:FnOk cfg prog 87 f87:=⟨func87,by kernel_rfl,body_q (by kernel_rfl)⟩
theorem ok88:FnOk cfg prog 88 f88:=⟨func88,by kernel_rfl,body_q (by kernel_rfl)⟩
theorem ok96:FnOk cfg prog 96 f96:=⟨func96,by kernel_rfl,body_q (by kernel_rfl)⟩
theorem ok98:FnOk cfg prog 98 f98:=⟨func98,by kernel_rfl,body_q (by kernel_rfl)⟩
theorem ok99:FnOk cfg prog 99 f99:=⟨func99,by kernel_rfl,body_q (by kernel_rfl)⟩
theorem ok100:FnOk cfg prog 100 f100:=⟨func100,by kernel_rfl,body_q (by kernel_rfl)⟩
theorem ok102:FnOk cfg prog 102 f102:=⟨func102,by kernel_rfl,body_q (by kernel_rfl)⟩
theorem ok106:FnOk cfg prog 106 f106:=⟨func106,by kernel_rfl,body_q (by kernel_rfl)⟩
theorem ok108:FnOk cfg prog 108 f108:=⟨func108,by kernel_rfl,body_q (by kernel_rfl)⟩
theorem ok110:FnOk cfg prog 110 f110:=⟨func110,by kernel_rfl,body_q (by kernel_rfl)⟩
theorem ok118:FnOk cfg prog 118 f118:=⟨func118,by kernel_rfl,body_q (by kernel_rfl)⟩
theorem ok119:FnOk cfg prog 119 f119:=⟨func119,by kernel_rfl,body_q (by kernel_rfl)⟩
theorem ok122:FnOk cfg prog 122 f122:=⟨func122,by kernel_rfl,body_q (by kernel_rfl)⟩
theorem ok131:FnOk cfg prog 131 f131:=⟨func131,by kernel_rfl,body_q (by kernel_rfl)⟩
theorem ok134:FnOk cfg prog 134 f134:=⟨func134,by kernel_rfl,body_q (by kernel_rfl)⟩
theorem ok136:FnOk cfg prog 136 f136:=⟨func136,by kernel_rfl,body_q (by kernel_rfl)⟩
theorem ok138:FnOk cfg prog 138 f138:=⟨func138,by kernel_rfl,body_q (by kernel_rfl)⟩
theorem ok140:FnOk cfg prog 140 f140:=⟨func140,by kernel_rfl,body_q (by kernel_rfl)⟩
theorem ok141:FnOk cfg prog 141 f141:=⟨func141,by kernel_rfl,body_q (by kernel_rfl)⟩
theorem ok147:FnOk cfg prog 147 f147:=⟨func147,by kernel_rfl,body_q (by kernel_rfl)⟩
theorem ok149:FnOk cfg prog 149 f149:=⟨func149,by kernel_rfl,body_q (by kernel_rfl)⟩
theorem ok156:FnOk cfg prog 156 f156:=⟨func156,by kernel_rfl,body_q (by kernel_rfl)⟩
theorem ok158:FnOk cfg prog 158 f158:=⟨func158,by kernel_rfl,body_q (by kernel_rfl)⟩
theorem ok167:FnOk cfg prog 167 f167:=⟨func167,by kernel_rfl,body_q (by kernel_rfl)⟩
theorem ok181:FnOk cfg prog 181 f181:=⟨func181,by kernel_rfl,body_q (by kernel_rfl)⟩
theorem ok189:FnOk cfg prog 189 f189:=⟨func189,by kernel_rfl,body_q (by kernel_rfl)⟩
theorem ok202:FnOk cfg prog 202 f202:=⟨func202,by kernel_rfl,body_q (by kernel_rfl)⟩

end Go.Ev.Tryz
