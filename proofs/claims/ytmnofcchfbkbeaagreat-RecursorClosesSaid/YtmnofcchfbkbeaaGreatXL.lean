/- The tables fit the program (written by gen2.py; own work). -/
import Derived.Test.YtmnofcchfbkbeaaGreatXKa
import Derived.Test.YtmnofcchfbkbeaaGreatXKb
import Derived.Test.YtmnofcchfbkbeaaGreatXKc
import Derived.Test.YtmnofcchfbkbeaaGreatXKd
import Derived.Test.YtmnofcchfbkbeaaGreatChecked
namespace Go.Ev.Tryz
open Go.Ev Go.Proofs

theorem tiAll : tiT.All (fun k v => tiB Go.Proofs.Tryz.prog k v = true) := Tr.all_of (by kernel_rfl)

theorem fnAll : fnT.All (FnOk cfg Go.Proofs.Tryz.prog) :=
  ⟨⟨⟨⟨⟨⟨⟨ok3, ok4⟩, ⟨ok5, ⟨ok6, ok7⟩⟩⟩, ⟨⟨ok8, ⟨ok9, ok10⟩⟩, ⟨ok11, ⟨ok12, ok13⟩⟩⟩⟩, ⟨⟨⟨ok14, ok15⟩, ⟨ok16, ⟨ok17, ok18⟩⟩⟩, ⟨⟨ok19, ⟨ok20, ok21⟩⟩, ⟨ok22, ⟨ok23, ok24⟩⟩⟩⟩⟩, ⟨⟨⟨⟨ok25, ok26⟩, ⟨ok27, ⟨ok28, ok29⟩⟩⟩, ⟨⟨ok30, ⟨ok31, ok32⟩⟩, ⟨ok33, ⟨ok34, ok35⟩⟩⟩⟩, ⟨⟨⟨ok36, ⟨ok37, ok38⟩⟩, ⟨ok39, ⟨ok40, ok41⟩⟩⟩, ⟨⟨ok42, ⟨ok43, ok44⟩⟩, ⟨ok45, ⟨ok46, ok47⟩⟩⟩⟩⟩⟩, ⟨⟨⟨⟨⟨ok48, ok49⟩, ⟨ok50, ⟨ok51, ok52⟩⟩⟩, ⟨⟨ok53, ⟨ok54, ok55⟩⟩, ⟨ok56, ⟨ok57, ok58⟩⟩⟩⟩, ⟨⟨⟨ok59, ok60⟩, ⟨ok61, ⟨ok62, ok63⟩⟩⟩, ⟨⟨ok64, ⟨ok65, ok66⟩⟩, ⟨ok67, ⟨ok68, ok69⟩⟩⟩⟩⟩, ⟨⟨⟨⟨ok70, ok71⟩, ⟨ok72, ⟨ok73, ok74⟩⟩⟩, ⟨⟨ok75, ⟨ok76, ok77⟩⟩, ⟨ok78, ⟨ok79, ok80⟩⟩⟩⟩, ⟨⟨⟨ok81, ⟨ok82, ok83⟩⟩, ⟨ok84, ⟨ok85, ok86⟩⟩⟩, ⟨⟨ok87, ⟨ok88, ok89⟩⟩, ⟨ok90, ⟨ok91, ok92⟩⟩⟩⟩⟩⟩⟩, ⟨⟨⟨⟨⟨⟨ok93, ok94⟩, ⟨ok95, ⟨ok96, ok97⟩⟩⟩, ⟨⟨ok98, ⟨ok99, ok100⟩⟩, ⟨ok101, ⟨ok102, ok103⟩⟩⟩⟩, ⟨⟨⟨ok104, ok105⟩, ⟨ok106, ⟨ok107, ok108⟩⟩⟩, ⟨⟨ok109, ⟨ok110, ok113⟩⟩, ⟨ok114, ⟨ok115, ok116⟩⟩⟩⟩⟩, ⟨⟨⟨⟨ok117, ok118⟩, ⟨ok119, ⟨ok120, ok121⟩⟩⟩, ⟨⟨ok122, ⟨ok123, ok124⟩⟩, ⟨ok125, ⟨ok126, ok127⟩⟩⟩⟩, ⟨⟨⟨ok128, ⟨ok129, ok130⟩⟩, ⟨ok131, ⟨ok132, ok133⟩⟩⟩, ⟨⟨ok134, ⟨ok135, ok136⟩⟩, ⟨ok137, ⟨ok138, ok139⟩⟩⟩⟩⟩⟩, ⟨⟨⟨⟨⟨ok140, ok141⟩, ⟨ok142, ⟨ok143, ok144⟩⟩⟩, ⟨⟨ok145, ⟨ok146, ok147⟩⟩, ⟨ok148, ⟨ok149, ok150⟩⟩⟩⟩, ⟨⟨⟨ok153, ok154⟩, ⟨ok155, ⟨ok156, ok157⟩⟩⟩, ⟨⟨ok158, ⟨ok159, ok160⟩⟩, ⟨ok161, ⟨ok162, ok163⟩⟩⟩⟩⟩, ⟨⟨⟨⟨ok164, ok165⟩, ⟨ok166, ⟨ok167, ok168⟩⟩⟩, ⟨⟨ok169, ⟨ok181, ok182⟩⟩, ⟨ok184, ⟨ok185, ok186⟩⟩⟩⟩, ⟨⟨⟨ok187, ⟨ok188, ok189⟩⟩, ⟨ok190, ⟨ok191, ok192⟩⟩⟩, ⟨⟨ok193, ⟨ok200, ok201⟩⟩, ⟨ok202, ⟨ok203, ok205⟩⟩⟩⟩⟩⟩⟩⟩

/-- THE TABLES FIT THE PROGRAM. -/
theorem cfgOk : CfgOk cfg Go.Proofs.Tryz.prog where
  prog := rfl
  ti T i h := tiB_ok (Tr.all_get (x := tiT) (p := fun k v => tiB Go.Proofs.Tryz.prog k v = true) tiAll (show tiT.get T = some i from h))
  fn f fn h := let k := Tr.all_get (x := fnT) (p := FnOk cfg Go.Proofs.Tryz.prog) fnAll (show fnT.get f = some fn from h); ⟨k.1, k.2.1⟩
  body f fn _ h hc := body_of (Tr.all_get (x := fnT) (p := FnOk cfg Go.Proofs.Tryz.prog) fnAll (show fnT.get f = some fn from h)).2.2 hc
  okc _ _ := Iff.rfl
  mixed := Go.Proofs.Tryz.checked.mixed

end Go.Ev.Tryz
