/- The sample of the works of the law: the tests (own work). -/
import Derived.Test.YtmnofcchfbkbeaaGreatXe
import Derived.Test.YtmnofcchfbkbeaaGreatXC
namespace Go.Ev
open Go.Proofs Go.RowKit
noncomputable def Na (k:Nat):V→Bool
 | .int _ _=>Nat.beq k 0
 | .str _=>Nat.beq k 1
 | .list _ .no 0 _=>Nat.beq k 2
 | .list _ .tight 0 _=>Nat.beq k 2
 | .bool _=>Nat.beq k 3
 | _=>false
noncomputable def Hf:List Nat→List V→Bool
 | [],[]=>true
 | k::ks,v::vs=>Na k v && Hf ks vs
 | _,_=>false
noncomputable def rowOf (ks:List Nat):Option V→Option (List V)
 | some (.agg cs)=>bif Hf ks cs then some cs else none
 | _=>none
noncomputable def ksD:List Nat:=[0,0,1,0,0,1,2,2,0,0,1,2,2,0,2]
noncomputable def ksN:List Nat:=[0,1,0,0,0,1,2,2,0,0,1,2,2,0,1,1,0,0,0,0,0,0,2,0,3]
noncomputable def DS (n:Nat):Option (V×St)→Option (List V)
 | some (.list sz .no 0 rows,_)=>bif Nat.beq sz n then some rows else none
 | some (.list sz .tight 0 rows,_)=>bif Nat.beq sz n then some rows else none
 | _=>none
noncomputable def FJ:Option (V×St)→Option (List V)
 | some (.tuple [.list sz tok top rows,.int .i64 e],_)=>bif iEq e 0 && Nat.beq (aG rows) 1 then match DS 25 (some (.list sz tok top rows,St.empty)) with
  | some l=>rowOf ksN (nth l 0)
  | none=>none
  else none
 | _=>none
noncomputable def FK:Option (V×St)→Bool
 | some (.bool b,_)=>b
 | _=>false
noncomputable def zU (R:Run) (k at_:Nat):Bool:=match DS 15 (R (.f 15) [] St.empty) with
 | some bs=>match rowOf ksD (nth bs k) with
  | some b=>match FJ (R (.f 7) [.agg b] St.empty) with
   | some x=>match DS 25 (R (.f 16) [] St.empty) with
    | some is=>match rowOf ksN (nth is at_) with
     | some y=>allB V.pure [.agg b,.agg x,.agg y] && FK (R (.f 9) [.agg x,.agg y] St.empty)
     | none=>false
    | none=>false
   | none=>false
  | none=>false
 | none=>false
end Go.Ev
