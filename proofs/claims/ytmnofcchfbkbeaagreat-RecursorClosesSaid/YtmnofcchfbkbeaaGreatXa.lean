/- A pure evaluator over abstract values for the code of the Go model: the definitions (own work). -/
import Derived.WalkKit
import Derived.RangeFuncLeaves
namespace Go.Ev
theorem aMg {α:Type} {l:List α} {i:Nat} {a:α} (h:l[i]?=some a):a∈l:=List.mem_of_getElem? h
theorem aGs {α:Type} {l:List α} {i:Nat} {a:α} (h:l[i]?=some a):∃h:i<l.length,l[i]=a:=List.getElem?_eq_some_iff.1 h
theorem aGa {α:Type} {l:Array α} {i:Nat} {a:α} (h:l[i]?=some a):∃h:i<l.size,l[i]=a:=Array.getElem?_eq_some_iff.1 h
theorem aGe {α:Type} {l:List α} {i:Nat} (h:i<l.length):l[i]?=some l[i]:=List.getElem?_eq_getElem h
theorem aOn {n:Nat}:Int.ofNat n=(n:Int):=rfl
theorem aLc {α:Type} {a:α} {l:List α}:(a::l).length=l.length+1:=rfl
theorem aLm {α β:Type} {l:List α} {f:α→β}:(l.map f).length=l.length:=List.length_map f
theorem aLa {α:Type} {l m:List α}:(l++m).length=l.length+m.length:=List.length_append
theorem aMs {α:Type} {a:α} {l:List α}:a∈a::l:=List.mem_cons_self
theorem aMt {α:Type} {a:α} {l:List α} (b:α) (h:a∈l):a∈b::l:=List.mem_cons_of_mem b h
noncomputable def look {α:Type} (t:Nat) (l:List (Nat×α)):Option α:=
 List.rec none (fun p _ ih=>bif Nat.beq t p.1 then some p.2 else ih) l
theorem dX {α:Type} (t u:Nat) (v:α) (l:List (Nat×α)):look t ((u,v)::l)=bif Nat.beq t u then some v else look t l:=rfl
noncomputable def takeN {α:Type} (n:Nat) (l:List α):List α:=
 Nat.rec (motive:=fun _=>List α→List α) (fun _=>[]) (fun _ ih l=>List.casesOn l [] fun a r=>a::ih r) n l
noncomputable def fP {α:Type} (n:Nat) (l:List α):List α:=
 Nat.rec (motive:=fun _=>List α→List α) (fun l=>l) (fun _ ih l=>List.casesOn l [] fun _ r=>ih r) n l
theorem eD {α:Type} (n:Nat) (l:List α):takeN n l=l.take n:=by
 induction n generalizing l with
 | zero=>rfl
 | succ n ih=>cases l with
  | nil=>rfl
  | cons a r=>show a::takeN n r=a::r.take n;rw [ih]
theorem dz {α:Type} (n:Nat) (l:List α):fP n l=l.drop n:=by
 induction n generalizing l with
 | zero=>rfl
 | succ n ih=>cases l with
  | nil=>rfl
  | cons a r=>show fP n r=r.drop n;rw [ih]
noncomputable def aG {α:Type} (l:List α):Nat:=List.rec 0 (fun _ _ ih=>ih + 1) l
theorem an {α:Type} (l:List α):aG l=l.length:=by
 induction l with
 | nil=>rfl
 | cons a r ih=>show aG r + 1=r.length + 1;rw [ih]
noncomputable def cq {α:Type} (l m:List α):List α:=List.rec m (fun a _ ih=>a::ih) l
theorem bK {α:Type} (l m:List α):cq l m=l++m:=by
 induction l with
 | nil=>rfl
 | cons a r ih=>show a::cq r m=a::(r++m);rw [ih]
noncomputable def bg {α β:Type} (f:α→β) (l:List α):List β:=List.rec [] (fun a _ ih=>f a::ih) l
theorem bD {α β:Type} (f:α→β) (l:List α):bg f l=l.map f:=by
 induction l with
 | nil=>rfl
 | cons a r ih=>show f a::bg f r=f a::r.map f;rw [ih]
noncomputable def tC {α:Type} (l:List α) (n:Nat) (v:α):List α:=
 List.rec (motive:=fun _=>Nat→List α) (fun _=>[]) (fun a r ih n=>Nat.casesOn n (v::r) fun m=>a::ih m) l n
theorem eT {α:Type} (l:List α) (n:Nat) (v:α):tC l n v=l.set n v:=by
 induction l generalizing n with
 | nil=>cases n<;>rfl
 | cons a r ih=>cases n with
  | zero=>rfl
  | succ n=>show a::tC r n v=a::r.set n v;rw [ih]
noncomputable def nth {α:Type} (l:List α) (n:Nat):Option α:=
 List.rec (motive:=fun _=>Nat→Option α) (fun _=>none) (fun a _ ih n=>Nat.casesOn n (some a) ih) l n
theorem bR {α:Type} (l:List α) (n:Nat):nth l n=l[n]?:=by
 induction l generalizing n with
 | nil=>rfl
 | cons a r ih=>cases n with
  | zero=>rfl
  | succ n=>show nth r n=r[n]?;rw [ih]
inductive Tr (α:Type) where
 | none
 | leaf (k:Nat) (v:α)
 | node (m:Nat) (l r:Tr α)
noncomputable def Tr.get {α:Type} (x:Tr α) (t:Nat):Option α:=
 Tr.rec .none (fun k v=>bif Nat.beq t k then some v else .none) (fun m _ _ a b=>bif Nat.blt t m then a else b) x
def Tr.All {α:Type} (p:Nat→α→Prop):Tr α→Prop
 | .none=>True
 | .leaf k v=>p k v
 | .node _ l r=>Tr.All p l∧Tr.All p r
theorem Tr.all_get {α:Type} {p:Nat→α→Prop}:∀{x:Tr α} {t:Nat} {v:α},x.All p→x.get t=some v→p t v
 | .none,_,_,_,h=>by cases h
 | .leaf k v,t,w,ha,h=>by
  have h' : (bif Nat.beq t k then some v else Option.none)=some w:=h
  cases ht:Nat.beq t k with
  | true=>rw [ht] at h';cases h';rw [Nat.eq_of_beq_eq_true ht];exact ha
  | false=>rw [ht] at h';cases h'
 | .node m l r,t,w,ha,h=>by
  have h' : (bif Nat.blt t m then l.get t else r.get t)=some w:=h
  cases ht:Nat.blt t m with
  | true=>rw [ht] at h';exact Tr.all_get ha.1 h'
  | false=>rw [ht] at h';exact Tr.all_get ha.2 h'
noncomputable def Tr.allB {α:Type} (p:Nat→α→Bool) (x:Tr α):Bool:=Tr.rec true p (fun _ _ _ a b=>match a with | true=>b | false=>false) x
theorem Tr.all_of {α:Type} {p:Nat→α→Bool}:∀{x:Tr α},x.allB p=true→x.All (fun k v=>p k v=true)
 | .none,_=>trivial
 | .leaf _ _,h=>h
 | .node _ l r,h=>by
  have h' : (match l.allB p with | true=>r.allB p | false=>false)=true:=h
  cases hl:l.allB p with
  | true=>rw [hl] at h';exact⟨Tr.all_of hl,Tr.all_of h'⟩
  | false=>rw [hl] at h';cases h'
inductive vH where
 | loc (d:Nat)
 | box (b:Nat)
 deriving DecidableEq
inductive Tok where
 | no
 | tight
 | own (t:Nat)
 deriving DecidableEq
inductive V where
 | bool (b:Bool)
 | int (k:IntKind) (n:Int)
 | str (l:List UInt8)
 | nilp
 | ptr (b:vH) (o:Nat)
 | imm (top:Nat) (cells:List V)
 | list (sz:Nat) (tok:Tok) (top:Nat) (rows:List V)
 | slc (b:vH) (o sz len cap:Nat)
 | nilf
 | fn (f top:Nat) (first cap:List V)
 | yield (b:Nat)
 | nilm
 | map (b:Nat)
 | agg (cells:List V)
 | tuple (vs:List V)
 deriving Inhabited
noncomputable def V.cells:V→List V
 | .agg cs=>cs
 | v=>[v]
noncomputable def fE:V→Option Nat
 | .ptr (.box b) _=>some (b + 1)
 | .imm top _=>some top
 | .list _ _ top _=>some top
 | .slc (.box b) _ _ _ _=>some (b + 1)
 | .fn _ top _ _=>some top
 | .yield b=>some (b + 1)
 | .map b=>some (b + 1)
 | .ptr (.loc _) _ | .slc (.loc _) _ _ _ _ | .agg _ | .tuple _=>none
 | _=>some 0
noncomputable def both:Option Nat→Option Nat→Option Nat
 | some a,some b=>some (bif Nat.ble a b then b else a)
 | _,_=>none
noncomputable def aF (l:List V):Option Nat:=List.rec (some 0) (fun v _ ih=>both (fE v) ih) l
theorem r5:aF []=some 0:=rfl
theorem j9 (v:V) (vs:List V):aF (v::vs)=both (fE v) (aF vs):=rfl
noncomputable def fW:V→Option Nat
 | .agg cs=>aF cs
 | v=>fE v
noncomputable def aJ (l:List V):Option Nat:=List.rec (some 0) (fun v _ ih=>both (fW v) ih) l
theorem uj:aJ []=some 0:=rfl
theorem r8 (v:V) (vs:List V):aJ (v::vs)=both (fW v) (aJ vs):=rfl
noncomputable def V.lvl:V→Option Nat
 | .tuple vs=>aJ vs
 | v=>fW v
noncomputable def isZero:Option Nat→Bool
 | some 0=>true
 | _=>false
noncomputable def V.pure (v:V):Bool:=isZero (fW v)
noncomputable def aj:V→V
 | .list sz (.own _) top rows=>.list sz .no top rows
 | v=>v
noncomputable def V.strip:V→V
 | .agg cs=>.agg (bg aj cs)
 | v=>aj v
noncomputable def V.b8:V→V
 | .tuple vs=>.tuple (bg V.strip vs)
 | v=>v.strip
inductive Ex where
 | normal
 | ret
 | exit (id:Nat)
 deriving DecidableEq
inductive RSt where
 | ready
 | ka
 | busy
 | done
 | rj
 deriving DecidableEq
structure dj where
 fid:Nat
 nt:Nat
 tmps:List (Nat×V)
 locs:List (Nat×List V)
 params:List Nat
 assign:Code
 body:Code
 st:RSt
 iX:Option Ex
inductive Blk where
 | cells (ty:Nat) (cs:List V)
 | map (kt:Nat) (es:List (V×V))
 | loop (r:dj)
structure St where
 heap:List Blk
 aA:List Nat
noncomputable def St.empty:St:={ heap:=[],aA:=[] }
structure Env where
 nt:Nat
 tmps:List (Nat×V)
 locs:List (Nat×List V)
 fix:List Nat
noncomputable def Env.get (A:Env) (t:Nat):Option V:=look t A.tmps
noncomputable def Env.set (A:Env) (t:Nat) (v:V):Env:={ A with tmps:=(t,v)::A.tmps }
inductive Kd where
 | bool
 | int (k:IntKind)
 | str
 | ptr (elem:Nat)
 | slice (elem:Nat)
 | arr (n elem:Nat)
 | struct (fs:List (Nat×Nat))
 | map (k e:Nat)
 | func
 | other
structure TI where
 kind:Kd
 size:Nat
 bytes:Nat
 zero:List V
noncomputable def TI.isAgg (i:TI):Bool:=match i.kind with | .arr .. | .struct _=>true | _=>false
structure Acc where
 all:Bool
 loc:Option Nat
 heap:Bool
noncomputable def Acc.any:Acc:={ all:=true,loc:=none,heap:=true }
structure FC where
 pure:Bool
 locs:List Nat
 keep:Nat→List Nat
 acc:Nat→Nat→Acc
 sym:Bool:=false
 frz:List Nat:=[]
structure Cfg where
 prog:Program
 ti:Nat→Option TI
 fn:Nat→Option Func
 fc:Nat→FC
inductive Tgt where
 | f (id:Nat)
 | y (b:Nat)
abbrev Run:=Tgt→List V→St→Option (V×St)
noncomputable def lB:Value→Option V
 | .bool b=>some (.bool b)
 | .int k n=>some (.int k n)
 | .string s=>some (.str s.data.toList)
 | .pointer none=>some .nilp
 | .slice none 0 0=>some (.list 0 .tight 0 [])
 | .map none=>some .nilm
 | .nilFunc=>some .nilf
 | _=>none
noncomputable def IA {β:Type}:Option β→Option (List β)→Option (List β)
 | some b,some m=>some (b::m)
 | _,_=>none
noncomputable def bP {α β:Type} (f:α→Option β) (l:List α):Option (List β):=
 List.rec (some []) (fun a _ ih=>IA (f a) ih) l
theorem bS {α β:Type} (f:α→Option β) (a:α) (l:List α):bP f (a::l)=IA (f a) (bP f l):=rfl
noncomputable def ofConst:Value→Option V
 | .agg cs=>match bP lB cs.toList with
  | some l=>some (.agg l)
  | none=>none
 | v=>lB v
noncomputable def operand (A:Env):Operand→Option V
 | .tmp t=>A.get t
 | .const v=>ofConst v
 | .func f=>some (.fn f 0 [] [])
 | .global _=>none
noncomputable def operands (A:Env) (l:List Operand):Option (List V):=bP (operand A) l
noncomputable def r9:V→Bool
 | .ptr (.loc _) _=>true
 | .slc (.loc _) _ _ _ _=>true
 | _=>false
noncomputable def IB (c:V):Option V:=bif r9 c then none else some c
noncomputable def mk (agg:Bool) (cells:List V):Option V:=
 if agg then some (.agg cells) else match cells with | [c]=>IB c | _=>none
noncomputable def Acc.ok (a:Acc):vH→Bool
 | .loc d=>a.all || a.loc == some d
 | .box _=>a.heap
noncomputable def rd (A:Env) (S:St):vH→Option (List V)
 | .loc d=>look d A.locs
 | .box b=>match nth S.heap b with | some (.cells _ cs)=>some cs | _=>none
noncomputable def kM (cs:List V) (o:Nat) (new:List V):List V:=cq (takeN o cs) (cq new (fP (o + aG new) cs))
noncomputable def upd {α:Type} (t:Nat) (v:α) (l:List (Nat×α)):List (Nat×α):=
 List.rec [(t,v)] (fun p l ih=>bif Nat.beq t p.1 then (t,v)::l else p::ih) l
theorem FO {α:Type} (t:Nat) (v:α):upd t v []=[(t,v)]:=rfl
theorem BG {α:Type} (t u:Nat) (v x:α) (l:List (Nat×α)):upd t v ((u,x)::l)=bif Nat.beq t u then (t,v)::l else (u,x)::upd t v l:=rfl
noncomputable def storable (cs:List V):Bool:=(aF cs).isSome
noncomputable def wr (A:Env) (S:St) (b:vH) (o:Nat) (new:List V):Option (Env×St):=
 bif storable new then
  match b with
  | .loc d=>match look d A.locs with
   | some cs=>bif Nat.ble (o + aG new) (aG cs) then some ({ A with locs:=upd d (kM cs o new) A.locs },S) else none
   | none=>none
  | .box b=>match nth S.heap b with
   | some (.cells ty cs)=>bif Nat.ble (o + aG new) (aG cs) then some (A,{ S with heap:=tC S.heap b (.cells ty (kM cs o new)) }) else none
   | _=>none
 else none
noncomputable def load (C:Cfg) (A:Env) (S:St) (ac:Acc) (T:Nat) (p:V):Option V:=
 match C.ti T with
 | none=>none
 | some i=>match p with
  | .imm _ cells=>bif Nat.ble i.size (aG cells) then mk i.isAgg (takeN i.size cells) else none
  | .ptr b o=>bif ac.ok b then match rd A S b with
   | some cs=>bif Nat.ble (o + i.size) (aG cs) then mk i.isAgg (takeN i.size (fP o cs)) else none
   | none=>none
   else none
  | _=>none
noncomputable def store (C:Cfg) (A:Env) (S:St) (ac:Acc) (T:Nat) (p x:V):Option (Env×St):=
 match C.ti T with
 | none=>none
 | some i=>match p with
  | .ptr b o=>bif ac.ok b && Nat.beq (aG x.cells) i.size then wr A S b o x.cells else none
  | _=>none
noncomputable def memN (d:Nat) (l:List Nat):Bool:=List.rec false (fun e _ ih=>bif Nat.beq d e then true else ih) l
noncomputable def fN (d:Nat):V→Bool
 | .ptr (.loc e) _=>Nat.beq e d
 | .slc (.loc e) _ _ _ _=>Nat.beq e d
 | _=>false
noncomputable def jb (d t:Nat) (l:List (Nat×V)):Bool:=match look t l with | some v=>fN d v | none=>false
noncomputable def gW (d:Nat) (all l:List (Nat×V)):List (Nat×V):=List.rec [] (fun p _ ih=>bif jb d p.1 all then ih else p::ih) l
noncomputable def qj (d:Nat) (l:List (Nat×V)):List (Nat×V):=gW d l l
noncomputable def fresh (F:FC) (A:Env) (S:St) (ac:Acc) (dst:Option Nat) (ty:Nat) (cs:List V):Option (V×Env×St):=
 bif storable cs then
  match dst with
  | none=>none
  | some d=>
   bif memN d F.locs then
    bif ac.ok (.loc d) && !memN d A.fix then
     some (.ptr (.loc d) 0,{ A with tmps:=qj d A.tmps,locs:=upd d cs A.locs },S)
    else none
   else bif ac.heap then some (.ptr (.box (aG S.heap)) 0,A,{ S with heap:=cq S.heap [.cells ty cs] })
   else none
 else none
noncomputable def V.add:V→Nat→Option V
 | .ptr b o,n=>some (.ptr b (o + n))
 | .imm top cs,n=>some (.imm top (cs.drop n))
 | _,_=>none
noncomputable def fieldAddr (C:Cfg) (T:Nat) (x:V) (f:Nat):Option V:=
 match C.ti T with
 | some { kind:=.struct fs,.. }=>match nth fs f with
  | some (off,ft)=>match C.ti ft with
   | some i=>bif Nat.beq i.size 0 then none else x.add off
   | none=>none
  | none=>none
 | _=>none
noncomputable def part (C:Cfg) (T:Nat) (cs:List V) (off:Nat):Option V:=
 match C.ti T with
 | some i=>bif Nat.ble (off + i.size) (aG cs) then mk i.isAgg (takeN i.size (fP off cs)) else none
 | none=>none
noncomputable def field (C:Cfg) (T:Nat) (x:V) (f:Nat):Option V:=
 match C.ti T,x with
 | some { kind:=.struct fs,.. },.agg cs=>match nth fs f with
  | some (off,ft)=>part C ft cs off
  | none=>none
 | _,_=>none
noncomputable def below (ix:V) (n:Nat):Option Nat:=
 match ix with
 | .int _ (.ofNat m)=>bif Nat.blt m n then some m else none
 | _=>none
noncomputable def indexAddr (C:Cfg) (T:Nat) (x ix:V):Option V:=
 match C.ti T with
 | some { kind:=.arr n e,.. }=>match C.ti e,below ix n with
  | some ei,some i=>x.add (i * ei.size)
  | _,_=>none
 | some { kind:=.slice e,.. }=>match C.ti e,x with
  | some ei,.list sz _ top rows=>match below ix (aG rows) with
   | some i=>match nth rows i with
    | some r=>bif Nat.beq sz ei.size then some (.imm top r.cells) else none
    | none=>none
   | none=>none
  | some ei,.slc b o sz len _=>match below ix len with
   | some i=>bif Nat.beq sz ei.size then some (.ptr b (o + i * sz)) else none
   | none=>none
  | _,_=>none
 | _=>none
noncomputable def index (C:Cfg) (T:Nat) (x ix:V):Option V:=
 match C.ti T,x with
 | some { kind:=.arr n e,.. },.agg cs=>match C.ti e,below ix n with
  | some ei,some i=>part C e cs (i * ei.size)
  | _,_=>none
 | some { kind:=.str,.. },.str l=>match below ix (aG l) with
  | some i=>match nth l i with
   | some b=>some (.int .u8 b.toNat)
   | none=>none
  | none=>none
 | _,_=>none
noncomputable def rowsOf (cs:List V) (sz n:Nat):List V:=
 Nat.rec (motive:=fun _=>List V→List V) (fun _=>[]) (fun _ ih cs=>.agg (takeN sz cs)::ih (fP sz cs)) n cs
theorem uk (cs:List V) (sz:Nat):rowsOf cs sz 0=[]:=rfl
theorem um (cs:List V) (sz n:Nat):rowsOf cs sz (n + 1)=.agg (takeN sz cs)::rowsOf (fP sz cs) sz n:=rfl
noncomputable def bound:Option V→Option (Option Nat)
 | none=>some none
 | some (.int _ i)=>if 0≤i then some (some i.toNat) else none
 | _=>none
noncomputable def jK (sz:Nat) (tok:Tok) (top:Nat) (rows:List V) (lo hi mx:Option Nat):Option V:=
 let n:=aG rows
 let h:=hi.getD n
 let l:=lo.getD 0
 if l≤h∧h≤n then
  match mx with
  | none=>some (.list sz (if tok=.tight∧h=n then .tight else .no) top (fP l (takeN h rows)))
  | some m=>if h≤m∧m≤n∧hi.isSome then some (.list sz (if m=h∧0 < sz then .tight else .no) top (fP l (takeN h rows))) else none
 else none
noncomputable def slice (C:Cfg) (T:Nat) (x:V) (lo hi mx:Option V):Option V:=
 match bound lo,bound hi,bound mx with
 | some lo,some hi,some mx=>
  match C.ti T,x with
  | some { kind:=.str,.. },.str s=>
   let h:=hi.getD (aG s)
   let l:=lo.getD 0
   if l≤h∧h≤aG s∧mx=none then some (.str (fP l (takeN h s))) else none
  | some { kind:=.slice e,.. },.list sz tok top rows=>match C.ti e with
   | some ei=>if rows.isEmpty=true∨sz=ei.size then jK sz tok top rows lo hi mx else none
   | none=>none
  | some { kind:=.slice e,.. },.slc b o sz len cap=>match C.ti e with
   | some ei=>
    let h:=hi.getD len
    let l:=lo.getD 0
    let m:=mx.getD cap
    if sz=ei.size∧l≤h∧h≤m∧m≤cap∧(mx=none∨hi.isSome) then some (.slc b (if m=l then o else o + l * sz) sz (h - l) (m - l)) else none
   | none=>none
  | some { kind:=.arr n e,.. },.ptr b o=>match C.ti e with
   | some ei=>
    let h:=hi.getD n
    let l:=lo.getD 0
    let m:=mx.getD n
    if l≤h∧h≤m∧m≤n∧(mx=none∨hi.isSome) then some (.slc b (if m=l then o else o + l * ei.size) ei.size (h - l) (m - l)) else none
   | none=>none
  | some { kind:=.arr n e,.. },.imm top cs=>match C.ti e with
   | some ei=>
    if n * ei.size≤aG cs∧0 < ei.size then jK ei.size .tight top (rowsOf cs ei.size n) lo hi mx
    else none
   | none=>none
  | _,_=>none
 | _,_,_=>none
noncomputable def fX (A:Env) (S:St) (ac:Acc) (esz:Nat):V→Option (Nat×List V)
 | .list sz _ top rows=>if rows.isEmpty=true∨sz=esz then some (top,rows) else none
 | .slc b o sz len _=>bif ac.ok b && Nat.beq sz esz then match rd A S b with
  | some cs=>bif Nat.ble (o + len * sz) (aG cs) then match aF (takeN (len * sz) (fP o cs)) with
   | some top=>some (top,rowsOf (bg aj (fP o cs)) sz len)
   | none=>none
   else none
  | none=>none
  else none
 | _=>none
noncomputable def ko (ei:TI) (S:St) (ac:Acc) (sz:Nat) (tok:Tok) (top:Nat) (rows:List V) (m3 : Nat) (new:List V):Option (V×St):=
 if 0 < ei.size∧(rows.isEmpty=true∨sz=ei.size)∧(aG rows + aG new) * (ei.bytes + 1)≤140737488355328∧ac.heap=true then
  match tok with
  | .no=>none
  | .tight=>some (.list ei.size (.own (aG S.aA)) (bif Nat.ble top m3 then m3 else top) (cq rows new),{ S with aA:=cq S.aA [aG rows + aG new] })
  | .own t=>if nth S.aA t=some (aG rows) then
   some (.list ei.size (.own t) (bif Nat.ble top m3 then m3 else top) (cq rows new),{ S with aA:=tC S.aA t (aG rows + aG new) })
   else none
 else none
noncomputable def append (C:Cfg) (A:Env) (S:St) (ac:Acc) (T:Nat) (s x:V):Option (V×St):=
 match C.ti T with
 | some { kind:=.slice e,.. }=>match C.ti e with
  | some ei=>match fX A S ac ei.size x,s with
   | some (m3,new),.list sz tok top rows=>
    if new.isEmpty then some (s,S) else ko ei S ac sz tok top rows m3 new
   | _,_=>none
  | none=>none
 | _=>none
noncomputable def Aa (cells:List V) (off sz:Nat) (v:V):Option (List V):=
 bif Nat.beq (aG v.cells) sz && Nat.ble (off + sz) (aG cells) then some (kM cells off v.cells) else none
noncomputable def FQ (C:Cfg) (fs:List (Nat×Nat)) (cells:List V):List (Nat×V)→Option (List V)
 | []=>some cells
 | (i,v)::rest=>match nth fs i with
  | some (off,ft)=>match C.ti ft with
   | some fi=>match Aa cells off fi.size v with
    | some cells=>FQ C fs cells rest
    | none=>none
   | none=>none
  | none=>none
noncomputable def BH (sz:Nat) (cells:List V):List (Nat×V)→Option (List V)
 | []=>some cells
 | (i,v)::rest=>match Aa cells (i * sz) sz v with
  | some cells=>BH sz cells rest
  | none=>none
noncomputable def oR (zero:List V) (n:Nat):List V:=Nat.rec [] (fun _ ih=>cq zero ih) n
noncomputable def build (C:Cfg) (T:Nat) (parts:List (Nat×V)):Option V:=
 match C.ti T with
 | some { kind:=.struct fs,zero:=z,.. }=>match FQ C fs z parts with
  | some cs=>if storable cs then some (.agg cs) else none
  | none=>none
 | some { kind:=.arr _ e,zero:=z,.. }=>match C.ti e with
  | some ei=>match BH ei.size z parts with
   | some cs=>if storable cs then some (.agg cs) else none
   | none=>none
  | none=>none
 | _=>none
noncomputable def buildSlice (C:Cfg) (T len:Nat) (parts:List (Nat×V)):Option V:=
 match C.ti T with
 | some { kind:=.slice e,.. }=>match C.ti e with
  | some ei=>if 0 < ei.size∧len * ei.size≤16777216 then
   match BH ei.size (oR ei.zero len) parts with
   | some cs=>match aF cs with
    | some top=>some (.list ei.size .tight top (rowsOf (bg aj cs) ei.size len))
    | none=>none
   | none=>none
   else none
  | none=>none
 | _=>none
noncomputable def ep (k:IntKind) (n:Int):Int:=
 match k,n with
 | .i64,.ofNat m=>bif Nat.ble m 9223372036854775807 then .ofNat m else IntKind.i64.wrap (.ofNat m)
 | .i64,.negSucc m=>bif Nat.ble m 9223372036854775807 then .negSucc m else IntKind.i64.wrap (.negSucc m)
 | .u8,.ofNat m=>bif Nat.ble m 255 then .ofNat m else IntKind.u8.wrap (.ofNat m)
 | k,n=>k.wrap n
noncomputable def tell (b:Bool):Option V:=match b with | true=>some (.bool true) | false=>some (.bool false)
noncomputable def iLt:Int→Int→Bool
 | .ofNat a,.ofNat b=>Nat.blt a b
 | .ofNat _,.negSucc _=>false
 | .negSucc _,.ofNat _=>true
 | .negSucc a,.negSucc b=>Nat.blt b a
noncomputable def iEq:Int→Int→Bool
 | .ofNat a,.ofNat b=>Nat.beq a b
 | .negSucc a,.negSucc b=>Nat.beq a b
 | _,_=>false
theorem cb (a b:Int):iLt a b=decide (a < b):=by
 rw [Bool.eq_iff_iff,decide_eq_true_eq]
 cases a with
 | ofNat a=>cases b with
  | ofNat b=>simp only [iLt,Nat.blt,Nat.ble_eq,aOn];omega
  | negSucc b=>exact⟨fun h=>(by cases h),fun h=>(by simp only [aOn] at h;omega)⟩
 | negSucc a=>cases b with
  | ofNat b=>exact⟨fun _=>(by simp only [aOn];omega),fun _=>rfl⟩
  | negSucc b=>simp only [iLt,Nat.blt,Nat.ble_eq];omega
theorem bp (a b:Int):iEq a b=decide (a=b):=by
 rw [Bool.eq_iff_iff,decide_eq_true_eq]
 cases a with
 | ofNat a=>cases b with
  | ofNat b=>simp only [iEq,Nat.beq_eq,aOn];omega
  | negSucc b=>exact⟨fun h=>(by cases h),fun h=>(by cases h)⟩
 | negSucc a=>cases b with
  | ofNat b=>exact⟨fun h=>(by cases h),fun h=>(by cases h)⟩
  | negSucc b=>simp only [iEq,Nat.beq_eq];omega
noncomputable def lK (op:BinOp) (k:IntKind) (a b:Int):Option V:=
 match op with
 | .add=>some (.int k (ep k (a + b)))
 | .sub=>some (.int k (ep k (a - b)))
 | .mul=>some (.int k (ep k (a * b)))
 | .quo=>if b=0 then none else some (.int k (ep k (a.tdiv b)))
 | .rem=>if b=0 then none else some (.int k (a.tmod b))
 | .eql=>tell (iEq a b)
 | .neq=>tell (!iEq a b)
 | .lss=>tell (iLt a b)
 | .leq=>tell (!iLt b a)
 | .gtr=>tell (iLt b a)
 | .geq=>tell (!iLt a b)
 | _=>none
noncomputable def rk (op:BinOp) (a b:List UInt8):Option V:=
 match op with
 | .add=>if a.length + b.length≤9223372036854775807 then some (.str (a++b)) else none
 | .eql=>tell (decide (a=b))
 | .neq=>tell (!decide (a=b))
 | .lss=>tell (Op.bytesLess a b)
 | .leq=>tell (Op.bytesLess a b || decide (a=b))
 | .gtr=>tell (!(Op.bytesLess a b || decide (a=b)))
 | .geq=>tell (!Op.bytesLess a b)
 | _=>none
noncomputable def nI:V→Option Value
 | .bool b=>some (.bool b)
 | .int k n=>some (.int k n)
 | .str l=>some (.string ⟨⟨l⟩⟩)
 | .nilp=>some (.pointer none)
 | .nilf=>some .nilFunc
 | .nilm=>some (.map none)
 | _=>none
noncomputable def allB {α:Type} (f:α→Bool) (l:List α):Bool:=List.rec true (fun a _ ih=>bif f a then ih else false) l
theorem Hp {α:Type} (f:α→Bool) (a:α) (l:List α):allB f (a::l)=bif f a then allB f l else false:=rfl
noncomputable def FR (v:V):Bool:=(nI v).isSome
noncomputable def FT:V→Bool
 | .agg cs=>allB FR cs
 | v=>FR v
noncomputable def rl:V→Bool
 | .tuple vs=>allB FT vs
 | v=>FT v
noncomputable def calm {α:Type} (P:Program):Sem α→Option α
 | .pure a=>some a
 | .program k=>calm P (k P)
 | _=>none
noncomputable def binOp (C:Cfg) (op:BinOp) (T:Nat) (x y:V):Option V:=
 match x,y with
 | .int k a,.int k' b=>
  if op=.shl∨op=.shr then
   if b < 0 then none else
   if op=.shl then some (.int k (ep k (a * 2 ^ (min b.toNat k.bits)))) else some (.int k (a.fdiv (2 ^ (min b.toNat k.bits))))
  else if k=k' then lK op k a b else none
 | .str a,.str b=>rk op a b
 | .agg xs,.agg ys=>match bP nI xs,bP nI ys with
  | some l,some m=>match op with
   | .eql=>match C.ti T,calm C.prog (do eqGuard op T (.tmp 0) (.tmp 0) (.agg ⟨l⟩) (.agg ⟨m⟩);Op.equal T (.agg ⟨l⟩) (.agg ⟨m⟩)) with
    | some _,some b=>some (.bool b)
    | _,_=>none
   | .neq=>match C.ti T,calm C.prog (do eqGuard op T (.tmp 0) (.tmp 0) (.agg ⟨l⟩) (.agg ⟨m⟩);Op.equal T (.agg ⟨l⟩) (.agg ⟨m⟩)) with
    | some _,some b=>some (.bool (!b))
    | _,_=>none
   | _=>none
  | _,_=>none
 | .bool a,.bool b=>match C.ti T with
  | some { kind:=.bool,.. }=>match op with
   | .eql=>some (.bool (a == b))
   | .neq=>some (.bool (!(a == b)))
   | _=>none
  | _=>none
 | .nilp,.nilp=>ptrEq C op T true
 | .nilp,.ptr _ _=>ptrEq C op T false
 | .ptr _ _,.nilp=>ptrEq C op T false
 | .imm _ _,.nilp=>ptrEq C op T false
 | .nilp,.imm _ _=>ptrEq C op T false
 | _,_=>none
where
 ptrEq (C:Cfg) (op:BinOp) (T:Nat) (b:Bool):Option V:=
  match C.ti T with
  | some { kind:=.ptr _,.. }=>match op with
   | .eql=>some (.bool b)
   | .neq=>some (.bool (!b))
   | _=>none
  | _=>none
noncomputable def unOp (op:UnOp) (x:V):Option V:=
 match op,x with
 | .not,.bool b=>tell (!b)
 | .neg,.int k n=>some (.int k (ep k (0 - n)))
 | _,_=>none
noncomputable def fY (b:UInt8):V:=.agg [.int .u8 (.ofNat b.toNat)]
noncomputable def convert (C:Cfg) (src dst:Nat) (x:V):Option V:=
 match C.ti src,C.ti dst,x with
 | some _,some { kind:=.int k,.. },.int _ n=>some (.int k (ep k n))
 | some _,some { kind:=.str,.. },.str s=>some (.str s)
 | some _,some { kind:=.slice e,.. },.str s=>match C.ti e with
  | some { kind:=.int .u8,.. }=>some (.list 1 .no 0 (bg fY s))
  | _=>none
 | _,_,_=>none
noncomputable def maxOf:List V→Option V
 | []=>none
 | x::rest=>rest.foldlM (fun a b=>match a,b with
  | .int k m,.int _ n=>some (.int k (if n > m then n else m))
  | _,_=>none) x
noncomputable def minOf:List V→Option V
 | []=>none
 | x::rest=>rest.foldlM (fun a b=>match a,b with
  | .int k m,.int _ n=>some (.int k (if n < m then n else m))
  | _,_=>none) x
noncomputable def len (C:Cfg) (S:St) (ac:Acc) (T:Nat) (x:V):Option V:=
 match C.ti T,x with
 | some { kind:=.slice _,.. },.list _ _ _ rows=>some (.int .i64 (.ofNat (aG rows)))
 | some { kind:=.slice _,.. },.slc _ _ _ n _=>some (.int .i64 (.ofNat n))
 | some { kind:=.str,.. },.str l=>some (.int .i64 (.ofNat (aG l)))
 | some { kind:=.arr n _,.. },_=>some (.int .i64 (.ofNat n))
 | some { kind:=.map _ _,.. },.map b=>if ac.heap then match nth S.heap b with
  | some (.map _ es)=>some (.int .i64 (.ofNat (aG es)))
  | _=>none
  else none
 | some { kind:=.map _ _,.. },.nilm=>some (.int .i64 0)
 | _,_=>none
noncomputable def jc (A:Env) (S:St) (ac:Acc):V→Option V
 | .slc b o sz len cap=>bif ac.ok b then match rd A S b with
  | some cs=>bif Nat.ble (o + len * sz) (aG cs) then match aF (takeN (len * sz) (fP o cs)) with
   | some top=>some (.list sz (if cap=len∧0 < sz then .tight else .no) top (rowsOf (bg aj (fP o cs)) sz len))
   | none=>none
   else none
  | none=>none
  else none
 | v=>some v
noncomputable def jL (A:Env) (S:St) (ac:Acc):V→Option V
 | .agg cs=>match bP (jc A S ac) cs with
  | some l=>some (.agg l)
  | none=>none
 | v=>jc A S ac v
noncomputable def frz (A:Env) (S:St) (ac:Acc):V→Option V
 | .tuple vs=>match bP (jL A S ac) vs with
  | some l=>some (.tuple l)
  | none=>none
 | v=>jL A S ac v
noncomputable def IC:V→Option Value
 | .agg cs=>match bP nI cs with
  | some l=>some (.agg ⟨l⟩)
  | none=>none
 | v=>nI v
noncomputable def Lj (p:V×V):Option MapEntry:=
 match IC p.1 with
 | some k=>some { key:=k,val:=.tuple #[],born:=0 }
 | none=>none
noncomputable def N5 (C:Cfg) (e:Bool) (T:Nat) (k:Value) (es:List MapEntry):Option (Option Nat):=
 calm C.prog (do Instr.checkKey e 10000 T k;let r ← Instr.findKey T k es;pure (r.map (·.1)))
noncomputable def N6 (S:St) (ac:Acc):V→Option (List (V×V))
 | .nilm=>some []
 | .map b=>bif ac.heap then match nth S.heap b with
  | some (.map _ es)=>some es
  | _=>none
  else none
 | _=>none
noncomputable def ID (ok:Bool) (is:Bool) (v:V):V:=match ok with | true=>.tuple [v,.bool is] | false=>v
noncomputable def lookup (C:Cfg) (S:St) (ac:Acc) (T:Nat) (x i:V) (ok:Bool):Option V:=
 match C.ti T with
 | some { kind:=.map kt et,.. }=>match IC i,N6 S ac x with
  | some k,some es=>match bP Lj es with
   | some ks=>match N5 C ks.isEmpty kt k ks with
    | some (some j)=>match nth es j with
     | some p=>match fW p.2 with
      | some _=>some (ID ok true p.2)
      | none=>none
     | none=>none
    | some none=>match calm C.prog (zeroValue et) with
     | some z=>match ofConst z with
      | some v=>some (ID ok false v)
      | none=>none
     | none=>none
    | none=>none
   | none=>none
  | _,_=>none
 | _=>none
abbrev Out:=Option (V×Env×St)
noncomputable def eX (A:Env) (S:St):Option V→Out
 | some x=>some (x,A,S)
 | none=>none
noncomputable def eF (C:Cfg) (R:Run) (A:Env) (S:St) (ac:Acc) (f:Nat) (args:List V):Option (V×Env×St):=
 bif (C.fc f).pure && !allB V.pure args then
  match bP (jL A S ac) args with
  | some l=>bif allB V.pure l then
   match R (.f f) l S with
   | some (v,_)=>if rl v then some (v,A,S) else none
   | none=>none
   else iG R A S f args
  | none=>none
 else iG R A S f args
where
 iG (R:Run) (A:Env) (S:St) (f:Nat) (args:List V):Option (V×Env×St):=
  match aJ args with
  | some _=>match R (.f f) args S with
   | some (v,S)=>some (v,A,S)
   | none=>none
  | none=>none
noncomputable def tD (C:Cfg) (R:Run) (A:Env) (S:St) (f:Option V) (args:List V):Option (V×Env×St):=
 match f with
 | some (.fn f _ first cap)=>bif (C.fc f).pure && allB V.pure (cq first (cq args cap)) then
  match R (.f f) (cq first (cq args cap)) St.empty with
  | some (v,_)=>some (v,A,S)
  | none=>none
  else none
 | _=>none
noncomputable def FU (C:Cfg) (T U:Nat):Bool:=Nat.beq T U || (match C.ti T,C.ti U with
 | some { kind:=.slice a,.. },some { kind:=.slice b,.. }=>Nat.beq a b
 | _,_=>false)
noncomputable def ik (C:Cfg) (R:Run) (A:Env) (S:St) (ac:Acc) (c:Call):Option (V×Env×St):=
 match operands A c.args.toList with
 | none=>none
 | some args=>match c.callee with
  | .builtin b=>match b,args,c.argTypes.toList with
   | .len,[x],[T]=>eX A S (len C S ac T x)
   | .append,[s,x],[T,U]=>bif FU C T U then
    match append C A S ac T s x with
    | some (v,S)=>some (v,A,S)
    | none=>none
    else none
   | .max,l,_=>eX A S (maxOf l)
   | .min,l,_=>eX A S (minOf l)
   | _,_,_=>none
  | .value f=>bif ac.heap then
   match operand A f with
   | some (.fn f _ first cap)=>eF C R A S ac f (cq first (cq args cap))
   | some (.yield b)=>match aJ args with
    | some _=>match R (.y b) args S with
     | some (v,S)=>some (v,A,S)
     | none=>none
    | none=>none
   | _=>none
   else tD C R A S (operand A f) args
  | .invoke ..=>none
noncomputable def partOf (A:Env) (p:Nat×Operand):Option (Nat×V):=
 match operand A p.2 with
 | some v=>some (p.1,v)
 | none=>none
noncomputable def partsOf (A:Env) (l:List (Nat×Operand)):Option (List (Nat×V)):=bP (partOf A) l
noncomputable def opt (A:Env):Option Operand→Option (Option V)
 | none=>some none
 | some o=>match operand A o with
  | some v=>some (some v)
  | none=>none
noncomputable def FV (A:Env) (S:St) (c a b:Operand):Out:=
 match operand A c with
 | some (.bool true)=>eX A S (operand A a)
 | some (.bool false)=>eX A S (operand A b)
 | _=>none
noncomputable def Ab (C:Cfg) (F:FC) (A:Env) (S:St) (ac:Acc) (dst:Option Nat) (T:Nat):Out:=
 match C.ti T with
 | some i=>fresh F A S ac dst T i.zero
 | none=>none
noncomputable def Ac (x:V):Option V:=
 match aF (bg aj x.cells) with
 | some top=>some (.imm top (bg aj x.cells))
 | none=>none
noncomputable def FW (F:FC) (dst:Option Nat):Bool:=match dst with
 | some d=>memN d F.frz && !memN d F.locs
 | none=>false
noncomputable def Lk (F:FC) (A:Env) (S:St) (ac:Acc) (dst:Option Nat) (T:Nat) (x:Operand):Out:=
 match operand A x with
 | some x=>match FW F dst with
  | true=>eX A S (Ac x)
  | false=>fresh F A S ac dst T x.cells
 | none=>none
noncomputable def Ad (C:Cfg) (A:Env) (S:St) (T:Nat) (parts:Array (Nat×Operand)):Out:=
 match partsOf A parts.toList with
 | some ps=>eX A S (build C T ps)
 | none=>none
noncomputable def kp (C:Cfg) (A:Env) (S:St) (T n:Nat) (parts:Array (Nat×Operand)):Out:=
 match partsOf A parts.toList with
 | some ps=>eX A S (buildSlice C T n ps)
 | none=>none
noncomputable def BI (C:Cfg) (A:Env) (S:St) (ac:Acc) (T:Nat) (a:Operand):Out:=
 match operand A a with
 | some p=>eX A S (load C A S ac T p)
 | none=>none
noncomputable def rm (C:Cfg) (A:Env) (S:St) (ac:Acc) (T:Nat) (a x:Operand):Out:=
 match operand A a,operand A x with
 | some p,some x=>match store C A S ac T p x with
  | some (A,S)=>some (.tuple [],A,S)
  | none=>none
 | _,_=>none
noncomputable def Ll (A:Env) (S:St) (x:Operand):Out:=
 match operand A x with
 | some (.ptr b o)=>some (.ptr b o,A,S)
 | some (.imm top cs)=>some (.imm top cs,A,S)
 | _=>none
noncomputable def Nr:Operand→Bool
 | .const (.slice none 0 0)=>true
 | _=>false
noncomputable def notNil:V→Bool
 | .slc _ _ _ _ _=>true
 | .list _ _ _ (_::_)=>true
 | _=>false
noncomputable def isNil:V→Bool
 | .list 0 .tight _ []=>true
 | _=>false
noncomputable def oS (C:Cfg) (op:BinOp) (T:Nat) (x:V) (y:Operand):Option V:=
 match Nr y with
 | true=>match C.ti T with
  | some { kind:=.slice _,.. }=>match notNil x with
   | true=>match op with
    | .eql=>some (.bool false)
    | .neq=>some (.bool true)
    | _=>none
   | false=>match isNil x with
    | true=>match op with
     | .eql=>some (.bool true)
     | .neq=>some (.bool false)
     | _=>none
    | false=>none
  | _=>none
 | false=>none
noncomputable def Hq (C:Cfg) (A:Env) (S:St) (op:BinOp) (T:Nat) (x y:Operand):Out:=
 match operand A x,operand A y with
 | some X,some Y=>match oS C op T X y with
  | some v=>eX A S (some v)
  | none=>eX A S (binOp C op T X Y)
 | _,_=>none
noncomputable def xUn (A:Env) (S:St) (op:UnOp) (x:Operand):Out:=
 match operand A x with
 | some x=>eX A S (unOp op x)
 | none=>none
noncomputable def FX (C:Cfg) (A:Env) (S:St) (src dst:Nat) (x:Operand):Out:=
 match operand A x with
 | some x=>eX A S (convert C src dst x)
 | none=>none
noncomputable def FY (A:Env) (S:St) (fn:Fn) (first cap:Array Operand):Out:=
 match fn,operands A first.toList,operands A cap.toList with
 | .func f,some fs,some cs=>match both (aJ fs) (aJ cs) with
  | some top=>some (.fn f top (bg V.strip fs) (bg V.strip cs),A,S)
  | none=>none
 | _,_,_=>none
noncomputable def vI (C:Cfg) (A:Env) (S:St) (T:Nat) (x:Operand) (lo hi mx:Option Operand):Out:=
 match operand A x,opt A lo,opt A hi,opt A mx with
 | some x,some lo,some hi,some mx=>eX A S (slice C T x lo hi mx)
 | _,_,_,_=>none
noncomputable def nJ (C:Cfg) (A:Env) (S:St) (T:Nat) (x:Operand) (f:Nat):Out:=
 match operand A x with
 | some x=>eX A S (fieldAddr C T x f)
 | none=>none
noncomputable def lL (C:Cfg) (A:Env) (S:St) (T:Nat) (x i:Operand):Out:=
 match operand A x,operand A i with
 | some x,some i=>eX A S (indexAddr C T x i)
 | _,_=>none
noncomputable def vJ (C:Cfg) (A:Env) (S:St) (T:Nat) (x i:Operand):Out:=
 match operand A x,operand A i with
 | some x,some i=>eX A S (index C T x i)
 | _,_=>none
noncomputable def sa (A:Env) (S:St) (x:Operand) (i:Nat):Out:=
 match operand A x with
 | some (.tuple vs)=>match nth vs i with
  | some v=>eX A S (IB v)
  | none=>none
 | _=>none
noncomputable def exec (C:Cfg) (R:Run) (F:FC) (A:Env) (S:St) (ac:Acc) (o:Oper):Out:=
 match o.op with
 | .move x=>eX A S (operand A x)
 | .assign x=>eX A S (operand A x)
 | .pick c a b=>FV A S c a b
 | .alloc T=>Ab C F A S ac o.dst T
 | .box T x=>Lk F A S ac o.dst T x
 | .build T parts=>Ad C A S T parts
 | .buildSlice T n parts=>kp C A S T n parts
 | .load T a=>BI C A S ac T a
 | .store T a x=>rm C A S ac T a x
 | .nilCheck x=>Ll A S x
 | .binOp op T x y _=>Hq C A S op T x y
 | .unOp op _ x=>xUn A S op x
 | .convert src dst x=>FX C A S src dst x
 | .makeFunc fn first cap=>FY A S fn first cap
 | .slice T x lo hi mx=>vI C A S T x lo hi mx
 | .fieldAddr T x f=>nJ C A S T x f
 | .indexAddr T x i=>lL C A S T x i
 | .index T x i=>vJ C A S T x i
 | .extract x i=>sa A S x i
 | .call c=>ik C R A S ac c
 | _=>none
noncomputable def kX (ops:List Oper) (A:Env) (o:Oper):Option Bool:=
 match o.guard with
 | none=>some true
 | some (j,want)=>match nth ops j with
  | some { dst:=some d,.. }=>match A.get d with
   | some (.bool b)=>some (b == want)
   | some (.tuple [])=>some false
   | _=>none
  | _=>none
noncomputable def put (A:Env) (d:Option Nat) (v:V):Option Env:=
 match d with
 | none=>some A
 | some d=>bif Nat.blt d A.nt then some (A.set d v) else none
noncomputable def bE (C:Cfg) (R:Run) (F:FC) (ac:Nat→Acc) (ops l:List Oper) (i:Nat) (A:Env) (S:St):Option (Env×St):=
 List.rec (motive:=fun _=>Nat→Env→St→Option (Env×St)) (fun _ A S=>some (A,S)) (fun o _ ih i A S=>one (kX ops A o) C R F (ac i) o A S (ih (i + 1))) l i A S
where
 back (d:Option Nat) (g:Env→St→Option (Env×St)):Out→Option (Env×St)
  | some (v,A,S)=>match put A d v with
   | some A=>g A S
   | none=>none
  | none=>none
 one (w:Option Bool) (C:Cfg) (R:Run) (F:FC) (ac:Acc) (o:Oper) (A:Env) (S:St) (g:Env→St→Option (Env×St)):Option (Env×St):=
  match w with
  | some true=>back o.dst g (exec C R F A S ac o)
  | some false=>back o.dst g (some (.tuple [],A,S))
  | none=>none
theorem mw (C:Cfg) (R:Run) (F:FC) (ac:Nat→Acc) (ops:List Oper) (i:Nat) (A:Env) (S:St):bE C R F ac ops [] i A S=some (A,S):=rfl
theorem gX (C:Cfg) (R:Run) (F:FC) (ac:Nat→Acc) (ops:List Oper) (o:Oper) (l:List Oper) (i:Nat) (A:Env) (S:St) :
 bE C R F ac ops (o::l) i A S=bE.one (kX ops A o) C R F (ac i) o A S (bE C R F ac ops l (i + 1)):=rfl
noncomputable def Ns (t:Nat):Option V→List (Nat×V)→List (Nat×V)
 | some v,l=>(t,v)::l
 | none,l=>l
noncomputable def vK (l:List (Nat×V)) (ts:List Nat):List (Nat×V):=List.rec [] (fun t _ ih=>Ns t (look t l) ih) ts
theorem BJ (l:List (Nat×V)) (t:Nat) (ts:List Nat):vK l (t::ts)=Ns t (look t l) (vK l ts):=rfl
noncomputable def Env.keep (A:Env) (ks:List Nat):Env:={ A with tmps:=vK A.tmps ks }
noncomputable def iter (f:Env→St→Option (Ex×Env×St)) (k:Nat) (A:Env) (S:St):Option (Ex×Env×St):=
 Nat.rec (motive:=fun _=>Env→St→Option (Ex×Env×St)) (fun _ _=>none) (fun _ ih A S=>andThen (f A S) ih) k A S
where
 andThen (r:Option (Ex×Env×St)) (g:Env→St→Option (Ex×Env×St)):Option (Ex×Env×St):=
  match r with
  | some (.normal,A,S)=>g A S
  | r=>r
theorem Hr (f:Env→St→Option (Ex×Env×St)) (A:Env) (S:St):iter f 0 A S=none:=rfl
theorem lC (f:Env→St→Option (Ex×Env×St)) (k:Nat) (A:Env) (S:St):iter f (k + 1) A S=iter.andThen (f A S) (iter f k):=rfl
noncomputable def bO (F:FC) (o:Oper):Option Nat:=
 match o.op,o.dst with
 | .alloc _,some d=>bif memN d F.locs then some d else none
 | .box _ _,some d=>bif memN d F.locs then some d else none
 | _,_=>none
noncomputable def di (F:FC) (l:List Oper) (ts:List (Nat×V)):List (Nat×V):=
 List.rec ts (fun o _ ih=>match bO F o with | some d=>qj d ih | none=>ih) l
theorem vd (F:FC) (o:Oper) (l:List Oper) (ts:List (Nat×V)) :
 di F (o::l) ts=match bO F o with | some d=>qj d (di F l ts) | none=>di F l ts:=rfl
noncomputable def after (id:Nat) (F:FC):Option (Env×St)→Option (Ex×Env×St)
 | some (A,S)=>some (.normal,A.keep (F.keep id),S)
 | none=>none
noncomputable def m4:Operand→List Nat
 | .tmp t=>[t]
 | _=>[]
structure InT where
 c:Call
 T:Nat
 s:Operand
 bd:Nat
 v:Nat
 n:Nat
 q:Nat
 Te:Nat
 x:Operand
 T5:Nat
 ph:Operand
noncomputable def IE:List Operand→List Nat→Option (Operand×Nat×Nat)
 | [s,.tmp b],[T,U]=>bif Nat.beq T U then some (s,b,T) else none
 | _,_=>none
noncomputable def Nt (p:Oper):Option (Call×Operand×Nat×Nat):=match p.op with
 | .call c=>match c.callee with
  | .builtin .append=>match IE c.args.toList c.argTypes.toList with
   | some (s,b,T)=>some (c,s,b,T)
   | none=>none
  | _=>none
 | _=>none
noncomputable def Nu (i:Oper):Option (Nat×Nat×Nat):=match i.op with
 | .indexAddr T (.tmp v) (.tmp n)=>some (T,v,n)
 | _=>none
noncomputable def Nv (e:Oper):Option (Nat×Nat×Operand):=match e.op with
 | .store T (.tmp q) x=>some (T,q,x)
 | _=>none
noncomputable def Nw (h:Oper):Option (Nat×Operand×Nat):=match h.op with
 | .store T ph (.tmp v)=>some (T,ph,v)
 | _=>none
noncomputable def qk (o:Oper):Bool:=match o.guard with | none=>true | some _=>false
noncomputable def FZ (o:Oper):Bool:=match o.dst with | none=>true | some _=>false
noncomputable def vL (p i e h:Oper):Option InT:=
 match Nt p,Nu i,Nv e,Nw h,p.dst,i.dst with
 | some (c,s,b,T),some (T3,v1,n),some (Te,q1,x),some (T5,ph,v2),some v,some q=>
  bif Nat.beq T3 T && Nat.beq v1 v && Nat.beq v2 v && Nat.beq q1 q && !Nat.beq v q && !Nat.beq n v && !Nat.beq n q && !memN v (m4 x) && !memN q (m4 x) && !memN v (m4 ph) && !memN q (m4 ph) &&
   qk p && qk i && qk e && qk h && FZ e && FZ h then some ⟨c,T,s,b,v,n,q,Te,x,T5,ph⟩ else none
 | _,_,_,_,_,_=>none
structure InP where
 pre:List Oper
 b:Oper
 p:Oper
 i:Oper
 e:Oper
 h:Oper
 r:InT
noncomputable def gY (l:List Oper):Option InP:=
 List.rec (motive:=fun _=>Option InP) none (fun o rest ih=>match rest with
  | [p,i,e,h]=>(match vL p i e h with
   | some r=>some ⟨[],o,p,i,e,h,r⟩
   | none=>none)
  | _=>(match ih with
   | some q=>some { q with pre:=o::q.pre }
   | none=>none)) l
noncomputable def rq (C:Cfg) (A:Env) (S:St) (r:InT):Option (Env×St):=
 match C.ti r.T with
 | some { kind:=.slice e,.. }=>match C.ti e with
  | some ei=>match operand A r.s,operand A r.x,operand A (.tmp r.n),operand A (.tmp r.bd),look r.q A.tmps with
   | some (.list sz tok top rows),some xv,some (.int _ i),some (.list bsz _ _ [.agg bc]),none=>
    match aF (bg aj xv.cells) with
    | some tl=>bif iEq i (.ofNat (aG rows)) && Nat.beq (aG xv.cells) ei.size && Nat.beq (aG bc) ei.size && Nat.beq bsz ei.size && Nat.beq r.Te e && Nat.ble (r.q + 1) A.nt then
     match ko ei S .any sz tok top rows tl [.agg (bg aj xv.cells)] with
     | some (v,S2)=>match put A (some r.v) v with
      | some A2=>some (A2,S2)
      | none=>none
     | none=>none
     else none
    | none=>none
   | _,_,_,_,_=>none
  | none=>none
 | _=>none
noncomputable def yD (C:Cfg) (R:Run) (F:FC) (id:Nat) (l:List Oper) (A:Env) (S:St):Option (Env×St):=
 match gY l with
 | none=>bE C R F (F.acc id) l l 0 A S
 | some q=>match bE C R F (F.acc id) l (cq q.pre [q.b]) 0 A S with
  | some (A1,S1)=>match rq C A1 S1 q.r with
   | some (A2,S2)=>bE C R F (F.acc id) l [q.h] (aG q.pre + 4) A2 S2
   | none=>none
  | none=>none
noncomputable def eU (C:Cfg) (R:Run) (F:FC) (id:Nat) (ops:Array Oper) (draw:Bool) (A:Env) (S:St):Option (Ex×Env×St):=
 match draw with
 | true=>after id F (yD C R F id ops.toList { A with tmps:=di F ops.toList A.tmps } S)
 | false=>after id F (bE C R F (fun _=>.any) ops.toList ops.toList 0 A S)
noncomputable def dt (o:Oper):Bool:=
 match o.op with
 | .load _ _=>true
 | .lookup _ _ _ _=>true
 | .call c=>match c.callee with | .builtin .len=>true | _=>false
 | _=>false
noncomputable def yE {α β:Type} (f:α→List β) (l:List α):List β:=List.rec [] (fun a _ ih=>cq (f a) ih) l
noncomputable def cu (a b:Bool):Bool:=match a with | true=>b | false=>false
noncomputable def orB (a b:Bool):Bool:=match a with | true=>true | false=>b
noncomputable def tE:Bool→Bool | true=>false | false=>true
noncomputable def looks (ops:List Oper) (o:Oper):List Nat:=
 cq (yE m4 o.op.operands.toList) (match o.guard with
  | some (g,_)=>(match nth ops g with
   | some x=>(match x.dst with | some d=>[d] | none=>[])
   | none=>[])
  | none=>[])
noncomputable def Lm (d:Option Nat) (l:List Nat):Bool:=match d with | some d=>tE (memN d l) | none=>true
noncomputable def tF (d e:Option Nat):Bool:=match d,e with | some d,some e=>tE (Nat.beq d e) | _,_=>true
noncomputable def indep (lx ly:List Nat) (x y:Oper) (ax ay:Acc):Bool:=
 cu (Lm x.dst ly) (cu (Lm y.dst lx) (cu (tF x.dst y.dst) (cu (orB (tE (cu ax.heap ay.heap)) (cu (dt x) (dt y)))
  (cu (tE ax.all) (cu (tE ay.all) (orB (tF ax.loc ay.loc) (cu (dt x) (dt y))))))))
noncomputable def qN (l:List (List Nat)) (o:Oper):List Nat:=
 yE (fun e=>bif Region.binds .any e then e.on::(match nth l e.on with | some m=>m | none=>[]) else []) o.after.toList
noncomputable def lM (j:Nat) (l:List Edge):Bool:=allB (fun e=>orB (tE (Region.binds .any e)) (Nat.blt e.on j)) l
noncomputable def tG (F:FC) (ops:List Oper) (ac:Nat→Acc) (y:Oper) (ly:List Nat) (j:Nat) (anc:List Nat):List Oper→Nat→Bool
 | [],_=>true
 | x::rest,i=>
  cu (match Nat.blt i j with
   | true=>cu (orB (memN i anc) (indep (looks ops x) ly x y (ac i) (ac j))) (tF (bO F x) (bO F y))
   | false=>true) (tG F ops ac y ly j anc rest (i + 1))
noncomputable def nK (F:FC) (ops:List Oper) (ac:Nat→Acc):List Oper→Nat→List (List Nat)→Bool
 | [],_,_=>true
 | y::rest,j,l=>
  cu (lM j y.after.toList) (cu (tG F ops ac y (looks ops y) j (qN l y) ops 0) (nK F ops ac rest (j + 1) (cq l [qN l y])))
noncomputable def ql (F:FC) (id:Nat) (ops:Array Oper):Bool:=nK F ops.toList (F.acc id) ops.toList 0 []
noncomputable def jd (o:Oper) (k:Nat):Bool:=List.rec false (fun e _ ih=>orB (cu (Nat.beq e.on k) (Region.binds .any e)) ih) o.after.toList
noncomputable def Ae (o:Oper) (m:Nat):Bool:=Nat.rec true (fun k ih=>cu (jd o k) ih) m
noncomputable def Ln (F:FC) (id:Nat) (l:List Oper) (q:InP):Bool:=
 cu (nK F l (F.acc id) (cq q.pre [q.b]) 0 []) (cu (lM (aG q.pre + 1) q.p.after.toList) (cu (lM (aG q.pre + 2) q.i.after.toList) (cu (lM (aG q.pre + 3) q.e.after.toList) (cu (lM (aG q.pre + 4) q.h.after.toList)
  (cu (Ae q.p (aG q.pre + 1)) (cu (jd q.i (aG q.pre + 1)) (cu (jd q.e (aG q.pre + 2)) (jd q.h (aG q.pre + 1)))))))))
noncomputable def vM (F:FC) (id:Nat) (ops:Array Oper):Bool:=match gY ops.toList with
 | none=>ql F id ops
 | some q=>Ln F id ops.toList q
noncomputable def dg:Code→Bool
 | .rangeFunc _ _ _ _=>false
 | .seq a b=>cu (dg a) (dg b)
 | .cond _ a b=>cu (dg a) (dg b)
 | .block _ b=>dg b
 | .loop b=>dg b
 | _=>true
noncomputable def codeOk (F:FC):Code→Bool
 | .region id ops draw=>(match draw with | true=>vM F id ops | false=>true)
 | .seq a b=>cu (codeOk F a) (codeOk F b)
 | .cond _ a b=>cu (codeOk F a) (codeOk F b)
 | .block _ b=>codeOk F b
 | .loop b=>codeOk F b
 | .rangeFunc _ _ a b=>cu (cu (codeOk F a) (dg a)) (cu (codeOk F b) (dg b))
 | _=>true
noncomputable def yF (A:Env) (S:St) (c:Operand) (f g:Env→St→Option (Ex×Env×St)):Option (Ex×Env×St):=
 match operand A c with
 | some (.bool true)=>f A S
 | some (.bool false)=>g A S
 | _=>none
noncomputable def vN (id:Nat) (r:Option (Ex×Env×St)):Option (Ex×Env×St):=
 match r with
 | some (.exit i,A,S)=>some (bif Nat.beq i id then .normal else .exit i,A,S)
 | r=>r
noncomputable def mP (R:Run) (fid:Nat) (g:Operand) (ps:Array Tmp) (assign body:Code) (A:Env) (S:St):Option (Ex×Env×St):=
 match operand A g with
 | some (.fn f _ first cap)=>
  match R (.f f) (cq first (.yield (aG S.heap)::cap)) { S with heap:=cq S.heap [.loop { fid,nt:=A.nt,tmps:=A.tmps,locs:=A.locs,params:=ps.toList,assign,body,st:=.ready,iX:=none }] } with
  | some (_,S')=>match nth S'.heap (aG S.heap) with
   | some (.loop r)=>
    if r.st=.ready∨r.st=.done then
     some ((match r.iX with | none=>.normal | some e=>e),{ A with locs:=r.locs },{ S' with heap:=tC S'.heap (aG S.heap) (.loop { r with st:=.rj,locs:=[],tmps:=[],iX:=none }) })
    else none
   | _=>none
  | none=>none
 | _=>none
abbrev sb:=Env→St→Option (Ex×Env×St)
noncomputable def evalCode (C:Cfg) (R:Run) (k fid:Nat) (F:FC) (c:Code):sb:=
 Code.rec (motive:=fun _=>sb)
  (fun A S=>some (.normal,A,S))
  (fun id ops draw A S=>eU C R F id ops draw A S)
  (fun _ _ f g A S=>iter.andThen (f A S) g)
  (fun c _ _ f g A S=>yF A S c f g)
  (fun id _ f A S=>vN id (f A S))
  (fun _ f A S=>iter f k A S)
  (fun g ps assign body _ _ A S=>mP R fid g ps assign body A S)
  (fun id A S=>some (.exit id,A,S))
  (fun _ _ _ _=>none)
  (fun _ _ _=>none)
  (fun _ _ _=>none)
  (fun A S=>some (.ret,A,S))
  (fun _ _ _=>none)
  c
section
variable (C:Cfg) (R:Run) (k fid:Nat) (F:FC) (A:Env) (S:St)
theorem ve (id:Nat) (ops:Array Oper) (draw:Bool):evalCode C R k fid F (.region id ops draw) A S=eU C R F id ops draw A S:=rfl
theorem Af (a b:Code):evalCode C R k fid F (.seq a b) A S=iter.andThen (evalCode C R k fid F a A S) (evalCode C R k fid F b):=rfl
theorem yo (c:Operand) (a b:Code):evalCode C R k fid F (.cond c a b) A S=yF A S c (evalCode C R k fid F a) (evalCode C R k fid F b):=rfl
theorem vO (id:Nat) (b:Code):evalCode C R k fid F (.block id b) A S=vN id (evalCode C R k fid F b A S):=rfl
theorem yp (b:Code):evalCode C R k fid F (.loop b) A S=iter (evalCode C R k fid F b) k A S:=rfl
theorem rv (g:Operand) (ps:Array Tmp) (a b:Code):evalCode C R k fid F (.rangeFunc g ps a b) A S=mP R fid g ps a b A S:=rfl
end
noncomputable def number {α:Type} (i:Nat) (l:List α):List (Nat×α):=
 List.rec (motive:=fun _=>Nat→List (Nat×α)) (fun _=>[]) (fun v _ ih i=>(i,v)::ih (i + 1)) l i
noncomputable def cR (C:Cfg) (A:Env) (S:St):List ResultVar→Option (List V)
 | []=>some []
 | .tmp t::l=>match A.get t,cR C A S l with
  | some v,some vs=>some (v::vs)
  | _,_=>none
 | .cell a T::l=>match A.get a with
  | some p=>match load C A S .any T p,cR C A S l with
   | some v,some vs=>some (v::vs)
   | _,_=>none
  | none=>none
noncomputable def one:List V→V
 | [v]=>v
 | vs=>.tuple vs
noncomputable def frame (C:Cfg) (R:Run) (k id:Nat) (args:List V) (S:St):Option (V×St):=
 match C.fn id with
 | some fn=>match fn.body with
  | some c=>match evalCode C R k id (C.fc id) c { nt:=fn.ntmps,tmps:=number 0 args,locs:=[],fix:=[] } S with
   | some (.exit _,_,_)=>none
   | some (_,A,S)=>match cR C A S fn.results.toList with
    | some vs=>match aJ vs with
     | some _=>some (one vs,S)
     | none=>none
    | none=>none
   | none=>none
  | none=>none
 | none=>none
noncomputable def ry:List (Nat×V)→List Nat→List V→Option (List (Nat×V))
 | l,[],[]=>some l
 | l,t::ts,v::vs=>ry ((t,v)::l) ts vs
 | _,_,_=>none
noncomputable def jM {α:Type} (l:List (Nat×α)):List Nat:=l.map (·.1)
noncomputable def gk (l:List (Nat×List V)):List Nat→List (Nat×List V)
 | []=>[]
 | t::ts=>match look t l with
  | some v=>(t,v)::gk l ts
  | none=>gk l ts
noncomputable def oT (S:St) (b:Nat) (st:RSt):Option dj:=
 match nth S.heap b with
 | some (.loop r)=>if r.st=st∧r.locs.isEmpty=true then some r else none
 | _=>none
noncomputable def er (S:St) (b:Nat) (r:dj):St:={ S with heap:=tC S.heap b (.loop r) }
noncomputable def vP (b:Nat) (keys:List Nat):Option (Ex×Env×St)→Option (V×St)
 | some (e,A,S)=>match oT S b .busy with
  | some r=>match e with
   | .normal=>some (.bool true,er S b { r with st:=.ready,locs:=gk A.locs keys })
   | e=>some (.bool false,er S b { r with st:=.done,locs:=gk A.locs keys,iX:=some e })
  | none=>none
 | none=>none
noncomputable def tH (C:Cfg) (R:Run) (k b fid:Nat) (body:Code) (keys:List Nat):Option (Ex×Env×St)→Option (V×St)
 | some (.normal,A,S)=>match oT S b .ka with
  | some r=>vP b keys (evalCode C R k fid (C.fc fid) body A (er S b { r with st:=.busy }))
  | none=>none
 | _=>none
noncomputable def round (C:Cfg) (R:Run) (k b:Nat) (args:List V) (S:St):Option (V×St):=
 match nth S.heap b with
 | some (.loop r)=>
  if r.st=.ready∧r.iX.isNone=true∧allB (fun t=>Nat.blt t r.nt) r.params=true then
   match ry r.tmps r.params args with
   | some ts=>tH C R k b r.fid r.body (jM r.locs)
    (evalCode C R k r.fid (C.fc r.fid) r.assign { nt:=r.nt,tmps:=ts,locs:=r.locs,fix:=jM r.locs } (er S b { r with st:=.ka,locs:=[] }))
   | none=>none
  else none
 | _=>none
noncomputable def step (C:Cfg) (R:Run) (k:Nat):Run
 | .f id,args,S=>
  bif (C.fc id).pure && allB V.pure args then
   match frame C R k id (bg V.strip args) St.empty with
   | some (v,S')=>match frz { nt:=0,tmps:=[],locs:=[],fix:=[] } S' .any v with
    | some v=>if isZero v.lvl then some (v.b8,S) else none
    | none=>none
   | none=>none
  else frame C R k id args S
 | .y b,args,S=>round C R k b args S
noncomputable def run (C:Cfg):Nat→Run
 | 0=>fun _ _ _=>none
 | n + 1=>step C (run C n) n
end Go.Ev
