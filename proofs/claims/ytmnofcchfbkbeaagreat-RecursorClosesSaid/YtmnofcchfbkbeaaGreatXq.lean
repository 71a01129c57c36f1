/- Levels and terms: what the functions on them give (own work). -/
import Derived.Test.YtmnofcchfbkbeaaGreatXe
import Derived.Test.YtmnofcchfbkbeaaGreatXL
namespace Go.Ev
open Go.Proofs Go.RowKit
set_option maxRecDepth 100000
set_option linter.unusedSimpArgs false
set_option linter.unusedVariables false
def l5 (R:Run) (b:Nat):List Int→Int→St→St→Prop
 | [],_,S,S'=>S'=S
 | p::ps,i,S,S'=>(iLt p 0=true∧l5 R b ps (i + 1) S S')∨(iLt p 0=false∧∃S1,R (.y b) [.int .i64 i,.int .i64 p] S=some (.bool true,S1)∧l5 R b ps (i + 1) S1 S')∨
  (iLt p 0=false∧R (.y b) [.int .i64 i,.int .i64 p] S=some (.bool false,S'))
noncomputable def Bb:Code→Option Code
 | .seq a b=>match Bb a with | some c=>some c | none=>Bb b
 | .block _ b=>Bb b
 | .loop b=>some b
 | _=>none
noncomputable def Da:Code:=((Tryz.f205.body).bind Bb).getD .skip
theorem Db (R:Run) (k m:Nat) (p0 p1 p2 p3:Int) (b:Nat) (S S' : St) (K:Ex→Env→St→Prop) (hK:∀e A,(e=.exit 0∨e=.ret)→K e A S') (h:l5 R b [] 4 S S') :
 aB (iter (evalCode Tryz.cfg R k 205 (Tryz.cfg.fc 205) Da) (m + 1) { nt:=21,tmps:=[(0,.yield b),(6,.agg [.int .i64 p0,.int .i64 p1,.int .i64 p2,.int .i64 p3]),(7,.int .i64 4)],locs:=[],fix:=[] } S) K:=by
 refine aB.round (nt:=21) (fx:=[]) ?_
 refine ah.no rfl ?_
 have h' : S'=S:=h
 subst h'
 exact hK _ _ (.inl rfl)
theorem Dc (R:Run) (k m:Nat) (p0 p1 p2 p3:Int) (b:Nat) (S S' : St) (K:Ex→Env→St→Prop) (hK:∀e A,(e=.exit 0∨e=.ret)→K e A S') (h:l5 R b [p3] 3 S S') :
 aB (iter (evalCode Tryz.cfg R k 205 (Tryz.cfg.fc 205) Da) (m + 2) { nt:=21,tmps:=[(0,.yield b),(6,.agg [.int .i64 p0,.int .i64 p1,.int .i64 p2,.int .i64 p3]),(7,.int .i64 3)],locs:=[],fix:=[] } S) K:=by
 refine aB.round (nt:=21) (fx:=[]) ?_
 refine ah.yes rfl ?_
 refine ab.mk _ rfl ?_
 rcases h with⟨h1,h2⟩ | ⟨h1,S1,h2,h3⟩ | ⟨h1,h2⟩
 ·refine ah.no (by rw [h1];rfl) ?_
  refine ab.mk _ rfl ?_
  exact Db R k m p0 p1 p2 p3 b S S' K hK h2
 ·refine ah.yes (by rw [h1];rfl) ?_
  refine ag.mk _ _ h2 ?_
  refine ab.mk _ rfl ?_
  exact Db R k m p0 p1 p2 p3 b S1 S' K hK h3
 ·refine ah.yes (by rw [h1];rfl) ?_
  refine ag.mk _ _ h2 ?_
  exact hK _ _ (.inr rfl)
theorem Dd (R:Run) (k m:Nat) (p0 p1 p2 p3:Int) (b:Nat) (S S' : St) (K:Ex→Env→St→Prop) (hK:∀e A,(e=.exit 0∨e=.ret)→K e A S') (h:l5 R b [p2,p3] 2 S S') :
 aB (iter (evalCode Tryz.cfg R k 205 (Tryz.cfg.fc 205) Da) (m + 3) { nt:=21,tmps:=[(0,.yield b),(6,.agg [.int .i64 p0,.int .i64 p1,.int .i64 p2,.int .i64 p3]),(7,.int .i64 2)],locs:=[],fix:=[] } S) K:=by
 refine aB.round (nt:=21) (fx:=[]) ?_
 refine ah.yes rfl ?_
 refine ab.mk _ rfl ?_
 rcases h with⟨h1,h2⟩ | ⟨h1,S1,h2,h3⟩ | ⟨h1,h2⟩
 ·refine ah.no (by rw [h1];rfl) ?_
  refine ab.mk _ rfl ?_
  exact Dc R k m p0 p1 p2 p3 b S S' K hK h2
 ·refine ah.yes (by rw [h1];rfl) ?_
  refine ag.mk _ _ h2 ?_
  refine ab.mk _ rfl ?_
  exact Dc R k m p0 p1 p2 p3 b S1 S' K hK h3
 ·refine ah.yes (by rw [h1];rfl) ?_
  refine ag.mk _ _ h2 ?_
  exact hK _ _ (.inr rfl)
theorem De (R:Run) (k m:Nat) (p0 p1 p2 p3:Int) (b:Nat) (S S' : St) (K:Ex→Env→St→Prop) (hK:∀e A,(e=.exit 0∨e=.ret)→K e A S') (h:l5 R b [p1,p2,p3] 1 S S') :
 aB (iter (evalCode Tryz.cfg R k 205 (Tryz.cfg.fc 205) Da) (m + 4) { nt:=21,tmps:=[(0,.yield b),(6,.agg [.int .i64 p0,.int .i64 p1,.int .i64 p2,.int .i64 p3]),(7,.int .i64 1)],locs:=[],fix:=[] } S) K:=by
 refine aB.round (nt:=21) (fx:=[]) ?_
 refine ah.yes rfl ?_
 refine ab.mk _ rfl ?_
 rcases h with⟨h1,h2⟩ | ⟨h1,S1,h2,h3⟩ | ⟨h1,h2⟩
 ·refine ah.no (by rw [h1];rfl) ?_
  refine ab.mk _ rfl ?_
  exact Dd R k m p0 p1 p2 p3 b S S' K hK h2
 ·refine ah.yes (by rw [h1];rfl) ?_
  refine ag.mk _ _ h2 ?_
  refine ab.mk _ rfl ?_
  exact Dd R k m p0 p1 p2 p3 b S1 S' K hK h3
 ·refine ah.yes (by rw [h1];rfl) ?_
  refine ag.mk _ _ h2 ?_
  exact hK _ _ (.inr rfl)
theorem JL (R:Run) (k m:Nat) (p0 p1 p2 p3:Int) (b:Nat) (S S' : St) (K:Ex→Env→St→Prop) (hK:∀e A,(e=.exit 0∨e=.ret)→K e A S') (h:l5 R b [p0,p1,p2,p3] 0 S S') :
 aB (iter (evalCode Tryz.cfg R k 205 (Tryz.cfg.fc 205) Da) (m + 5) { nt:=21,tmps:=[(0,.yield b),(6,.agg [.int .i64 p0,.int .i64 p1,.int .i64 p2,.int .i64 p3]),(7,.int .i64 0)],locs:=[],fix:=[] } S) K:=by
 refine aB.round (nt:=21) (fx:=[]) ?_
 refine ah.yes rfl ?_
 refine ab.mk _ rfl ?_
 rcases h with⟨h1,h2⟩ | ⟨h1,S1,h2,h3⟩ | ⟨h1,h2⟩
 ·refine ah.no (by rw [h1];rfl) ?_
  refine ab.mk _ rfl ?_
  exact De R k m p0 p1 p2 p3 b S S' K hK h2
 ·refine ah.yes (by rw [h1];rfl) ?_
  refine ag.mk _ _ h2 ?_
  refine ab.mk _ rfl ?_
  exact De R k m p0 p1 p2 p3 b S1 S' K hK h3
 ·refine ah.yes (by rw [h1];rfl) ?_
  refine ag.mk _ _ h2 ?_
  exact hK _ _ (.inr rfl)
theorem H0 (R:Run) (k:Nat) (c p0 p1 p2 p3:Int) (b:Nat) (H:List Blk) (aA:List Nat) (S' : St) (h:l5 R b [p0,p1,p2,p3] 0 { heap:=.cells 51 [.int .i64 c,.int .i64 p0,.int .i64 p1,.int .i64 p2,.int .i64 p3]::H,aA:=aA } S') :
 frame Tryz.cfg R (k + 5) 205 [.yield b,.ptr (.box 0) 0] { heap:=.cells 51 [.int .i64 c,.int .i64 p0,.int .i64 p1,.int .i64 p2,.int .i64 p3]::H,aA:=aA }=some (.tuple [],S'):=by
 refine aL Tryz.cfg R (fn:=Tryz.f205) rfl rfl ?_
 refine JL R (k + 5) k p0 p1 p2 p3 b _ S' _ ?_ h
 intro e A he
 rcases he with rfl | rfl<;>rfl
structure Lv where
 c:Int
 p0:Int
 p1:Int
 p2:Int
 p3:Int
 deriving DecidableEq
@[reducible] def dQ (l:Lv):List V:=[.int .i64 l.c,.int .i64 l.p0,.int .i64 l.p1,.int .i64 l.p2,.int .i64 l.p3]
@[reducible] def enc (l:Lv):V:=.agg (dQ l)
@[reducible] def Qq:List V:=[.int .i64 0,.int .i64 0,.int .i64 0,.int .i64 0,.int .i64 0]
theorem OP (n:Nat) (l:Lv) (S:St):RN (n + 1) (.f 203) [enc l] S=some (.fn 205 (aG S.heap + 1) [] [.ptr (.box (aG S.heap)) 0],{ S with heap:=cq S.heap [.cells 51 (dQ l)] }):=by
 refine bC rfl ?_
 refine aL Tryz.cfg _ (fn:=Tryz.f203) rfl rfl ?_
 rfl
noncomputable def sM:Code→Option (Code×Code)
 | .seq a b=>match sM a with | some c=>some c | none=>sM b
 | .block _ b=>sM b
 | .rangeFunc _ _ x y=>some (x,y)
 | _=>none
noncomputable def l6 (fn:Func):Code:=((fn.body.bind sM).getD (.skip,.skip)).1
noncomputable def l7 (fn:Func):Code:=((fn.body.bind sM).getD (.skip,.skip)).2
noncomputable def Gv (l:Lv):dj:={ fid:=193,nt:=15,tmps:=[(1,.ptr (.loc 1) 0),(2,.ptr (.loc 2) 0),(6,.fn 205 1 [] [.ptr (.box 0) 0])],locs:=[(1,dQ l),(2,Qq)],params:=[7,8],assign:=l6 Tryz.f193,body:=l7 Tryz.f193,st:=.ready,iX:=none }
noncomputable def L4 (l0 l:Lv):St:={ heap:=[.cells 51 (dQ l0),.loop (Gv l)],aA:=[] }
noncomputable def uQ (p c:Int):Int:=bif iLt p c then c else 0
theorem H2 (R:Run) (k:Nat) (l0 l:Lv) (i p:Int):round Tryz.cfg R k 1 [.int .i64 i,.int .i64 p] (L4 l0 l)=some (.bool true,L4 l0 { l with c:=uQ p l.c }):=by
 refine fj (r:=Gv l) (nt:=15) (fx:=[1,2]) rfl rfl rfl rfl rfl rfl rfl ?_
 refine ah.mk (fun h=>?_) (fun h=>?_)
 ·have e:uQ p l.c=0:=by unfold uQ;cases hq:iLt p l.c with | true=>rw [hq] at h;cases h | false=>rfl
  rw [e]
  rfl
 ·have e:uQ p l.c=l.c:=by unfold uQ;cases hq:iLt p l.c with | true=>rfl | false=>rw [hq] at h;cases h
  rw [e]
  rfl
noncomputable def uR {T:Type} (step:Int→Int→T→T):List Int→Int→T→T
 | [],_,t=>t
 | p::ps,i,t=>uR step ps (i + 1) (bif iLt p 0 then t else step i p t)
theorem oc {R:Run} {b:Nat} {T:Type} (st:T→St) (step:Int→Int→T→T) {p i:Int} {ps:List Int} {t:T} {S' : St}
 (h:R (.y b) [.int .i64 i,.int .i64 p] (st t)=some (.bool true,st (step i p t))) (hn:l5 R b ps (i + 1) (st (bif iLt p 0 then t else step i p t)) S'):l5 R b (p::ps) i (st t) S':=by
 cases hq:iLt p 0 with
 | true=>rw [hq] at hn;exact .inl ⟨hq,hn⟩
 | false=>rw [hq] at hn;exact .inr (.inl ⟨hq,_,h,hn⟩)
theorem EN {R:Run} {b:Nat} {T:Type} (st:T→St) (step:Int→Int→T→T) {p0 p1 p2 p3:Int} {t:T}
 (h:∀i p t,(i=0∨i=1∨i=2∨i=3)→R (.y b) [.int .i64 i,.int .i64 p] (st t)=some (.bool true,st (step i p t))) :
 l5 R b [p0,p1,p2,p3] 0 (st t) (st (uR step [p0,p1,p2,p3] 0 t)):=by
 refine oc st step (h _ _ _ (by omega)) ?_
 refine oc st step (h _ _ _ (by omega)) ?_
 refine oc st step (h _ _ _ (by omega)) ?_
 refine oc st step (h _ _ _ (by omega)) ?_
 rfl
@[reducible] def Lv.ps (l:Lv):List Int:=[l.p0,l.p1,l.p2,l.p3]
noncomputable def qY (l:Lv):Lv:=uR (fun _ p (l:Lv)=>{ l with c:=uQ p l.c }) l.ps 0 l
theorem OQ (n:Nat) (l:Lv) (S:St):RN (n + 7) (.f 193) [enc l] S=some (enc (qY l),S):=by
 refine Gk rfl rfl (v:=enc (qY l)) (S':=?_) ?_ rfl rfl
 rotate_left
 ·refine aL Tryz.cfg _ (fn:=Tryz.f193) rfl rfl ?_
  refine ag.mk _ _ (OP (n + 5) l _) ?_
  refine aB.mk _ _ _ (dL (f:=205) (top:=1) (first:=[]) (cap:=[.ptr (.box 0) 0]) (l:=Gv l) (r:=Gv (qY l)) (S':=L4 l (qY l)) (v:=.tuple []) (by rfl) (by rfl) ?_ (by rfl) (.inl rfl)) ?_
  ·refine bC (n:=n + 5) rfl ?_
   refine H0 (RN (n + 5)) n l.c l.p0 l.p1 l.p2 l.p3 1 _ [] _ ?_
   exact EN (L4 l) (fun _ p (l:Lv)=>{ l with c:=uQ p l.c }) (fun i p t _=>fH (H2 _ _ l t i p))
  ·rfl
theorem hU {α β:Type} (P:Program) (s:Sem α) (f:α→Sem β):calm P (s >>= f)=(calm P s).bind fun a=>calm P (f a):=by
 induction s with
 | pure a=>rfl
 | program k ih=>exact ih P
 | _=>rfl
theorem ub {α:Type} (P:Program) (a:α):calm P (pure a:Sem α)=some a:=rfl
theorem eq3 (d:Nat) (a b:Int):calm Tryz.prog (Op.equalIn (d + 1) 3 (.int .i64 a) (.int .i64 b))=some (a == b):=rfl
theorem qZ {xs:Array Value} {i:Nat} {k:IntKind} {n:Int} (h:xs.toList[i]?=some (.int k n)):calm Tryz.prog (Go.part 3 xs i)=some (.int k n):=by
 unfold Go.part
 rw [hU,show calm Tryz.prog (isAgg 3)=some false from rfl]
 have h' : xs[i]?=some (.int k n):=by simpa using h
 simp [h',ub]
theorem SD (d:Nat) (a0 a1 a2 a3 b0 b1 b2 b3:Int):calm Tryz.prog (Op.equalIn (d + 2) 49 (.agg #[.int .i64 a0,.int .i64 a1,.int .i64 a2,.int .i64 a3]) (.agg #[.int .i64 b0,.int .i64 b1,.int .i64 b2,.int .i64 b3]))=some ((a0 == b0) && ((a1 == b1) && ((a2 == b2) && (a3 == b3)))):=by
 unfold Op.equalIn
 rw [hU,show calm Tryz.prog (underlying 49)=some (.array 4 3) from rfl]
 simp only [Option.bind]
 rw [hU,show calm Tryz.prog (sizeOf 3)=some 1 from rfl]
 simp only [Option.bind,Std.Legacy.Range.forIn_eq_forIn_range',Std.Legacy.Range.size]
 cases h0:(a0 == b0)<;>cases h1:(a1 == b1)<;>cases h2:(a2 == b2)<;>cases h3:(a3 == b3)<;>
 simp [List.range',hU,ub,eq3,qZ (xs:=#[Value.int .i64 a0,.int .i64 a1,.int .i64 a2,.int .i64 a3]) (i:=0) rfl,qZ (xs:=#[Value.int .i64 a0,.int .i64 a1,.int .i64 a2,.int .i64 a3]) (i:=1) rfl,
  qZ (xs:=#[Value.int .i64 a0,.int .i64 a1,.int .i64 a2,.int .i64 a3]) (i:=2) rfl,qZ (xs:=#[Value.int .i64 a0,.int .i64 a1,.int .i64 a2,.int .i64 a3]) (i:=3) rfl,
  qZ (xs:=#[Value.int .i64 b0,.int .i64 b1,.int .i64 b2,.int .i64 b3]) (i:=0) rfl,qZ (xs:=#[Value.int .i64 b0,.int .i64 b1,.int .i64 b2,.int .i64 b3]) (i:=1) rfl,
  qZ (xs:=#[Value.int .i64 b0,.int .i64 b1,.int .i64 b2,.int .i64 b3]) (i:=2) rfl,qZ (xs:=#[Value.int .i64 b0,.int .i64 b1,.int .i64 b2,.int .i64 b3]) (i:=3) rfl,h0,h1,h2,h3]
theorem OR (c p0 p1 p2 p3:Int):calm Tryz.prog (Go.part 49 #[.int .i64 c,.int .i64 p0,.int .i64 p1,.int .i64 p2,.int .i64 p3] 1)=some (.agg #[.int .i64 p0,.int .i64 p1,.int .i64 p2,.int .i64 p3]):=rfl
theorem Qr (a b:Lv):calm Tryz.prog (Op.equal 51 (.agg #[.int .i64 a.c,.int .i64 a.p0,.int .i64 a.p1,.int .i64 a.p2,.int .i64 a.p3]) (.agg #[.int .i64 b.c,.int .i64 b.p0,.int .i64 b.p1,.int .i64 b.p2,.int .i64 b.p3]))=some (decide (a=b)):=by
 have hd:decide (a=b)=((a.c == b.c) && ((a.p0 == b.p0) && ((a.p1 == b.p1) && ((a.p2 == b.p2) && (a.p3 == b.p3))))):=by
  cases a;cases b
  rw [Bool.eq_iff_iff]
  simp
 rw [hd]
 unfold Op.equal Op.maxDepth Op.equalIn
 rw [hU,show calm Tryz.prog (underlying 51)=some (.struct #[{ name:="C",type:=3,offset:=0,embedded:=false,tag:="",pkgPath:="",byteOffset:=0 },{ name:="P",type:=49,offset:=1,embedded:=false,tag:="",pkgPath:="",byteOffset:=8 }]) from rfl]
 simp only [Option.bind]
 rw [hU,show calm Tryz.prog program=some Tryz.prog from rfl]
 simp only [Option.bind,show Tryz.prog.stoodInHeld 51=false by kernel_rfl]
 cases h0:(a.c == b.c)<;>cases h1:((a.p0 == b.p0) && ((a.p1 == b.p1) && ((a.p2 == b.p2) && (a.p3 == b.p3))))<;>
 simp [hU,ub,eq3,SD,OR,qZ (xs:=#[Value.int .i64 a.c,.int .i64 a.p0,.int .i64 a.p1,.int .i64 a.p2,.int .i64 a.p3]) (i:=0) rfl,
  qZ (xs:=#[Value.int .i64 b.c,.int .i64 b.p0,.int .i64 b.p1,.int .i64 b.p2,.int .i64 b.p3]) (i:=0) rfl,h0,h1]
theorem Qs (a b:Lv):binOp Tryz.cfg .eql 51 (enc a) (enc b)=some (.bool (decide (a=b))):=by
 have e:calm Tryz.cfg.prog (do eqGuard .eql 51 (.tmp 0) (.tmp 0) (.agg ⟨[Value.int .i64 a.c,.int .i64 a.p0,.int .i64 a.p1,.int .i64 a.p2,.int .i64 a.p3]⟩) (.agg ⟨[Value.int .i64 b.c,.int .i64 b.p0,.int .i64 b.p1,.int .i64 b.p2,.int .i64 b.p3]⟩);Op.equal 51 (.agg ⟨[Value.int .i64 a.c,.int .i64 a.p0,.int .i64 a.p1,.int .i64 a.p2,.int .i64 a.p3]⟩) (.agg ⟨[Value.int .i64 b.c,.int .i64 b.p0,.int .i64 b.p1,.int .i64 b.p2,.int .i64 b.p3]⟩))=some (decide (a=b)):=by
  rw [hU,show calm Tryz.cfg.prog (eqGuard .eql 51 (.tmp 0) (.tmp 0) (.agg ⟨[Value.int .i64 a.c,.int .i64 a.p0,.int .i64 a.p1,.int .i64 a.p2,.int .i64 a.p3]⟩) (.agg ⟨[Value.int .i64 b.c,.int .i64 b.p0,.int .i64 b.p1,.int .i64 b.p2,.int .i64 b.p3]⟩))=some () by kernel_rfl]
  exact Qr a b
 show (match Tryz.cfg.ti 51,calm Tryz.cfg.prog _ with
  | some _,some b=>some (V.bool b)
  | _,_=>none)=_
 rw [e]
 rfl
theorem JM (a b:Lv):binOp Tryz.cfg .neq 51 (enc a) (enc b)=some (.bool (!decide (a=b))):=by
 have e:calm Tryz.cfg.prog (do eqGuard .neq 51 (.tmp 0) (.tmp 0) (.agg ⟨[Value.int .i64 a.c,.int .i64 a.p0,.int .i64 a.p1,.int .i64 a.p2,.int .i64 a.p3]⟩) (.agg ⟨[Value.int .i64 b.c,.int .i64 b.p0,.int .i64 b.p1,.int .i64 b.p2,.int .i64 b.p3]⟩);Op.equal 51 (.agg ⟨[Value.int .i64 a.c,.int .i64 a.p0,.int .i64 a.p1,.int .i64 a.p2,.int .i64 a.p3]⟩) (.agg ⟨[Value.int .i64 b.c,.int .i64 b.p0,.int .i64 b.p1,.int .i64 b.p2,.int .i64 b.p3]⟩))=some (decide (a=b)):=by
  rw [hU,show calm Tryz.cfg.prog (eqGuard .neq 51 (.tmp 0) (.tmp 0) (.agg ⟨[Value.int .i64 a.c,.int .i64 a.p0,.int .i64 a.p1,.int .i64 a.p2,.int .i64 a.p3]⟩) (.agg ⟨[Value.int .i64 b.c,.int .i64 b.p0,.int .i64 b.p1,.int .i64 b.p2,.int .i64 b.p3]⟩))=some () by kernel_rfl]
  exact Qr a b
 show (match Tryz.cfg.ti 51,calm Tryz.cfg.prog _ with
  | some _,some b=>some (V.bool (!b))
  | _,_=>none)=_
 rw [e]
 rfl
@[reducible] def TOP:Int:=1099511627776
noncomputable def okP (p:Int):Bool:=!iLt p (-1) && !iLt TOP p
noncomputable def eA (l:Lv):Bool:=!iLt l.c 0 && (!iLt TOP l.c && (okP l.p0 && (okP l.p1 && (okP l.p2 && (okP l.p3 && decide (qY l=l))))))
theorem H3 (n:Nat) (l:Lv):frame Tryz.cfg (RN (n + 7)) (n + 7) 168 [enc l] St.empty=some (.bool (eA l),St.empty):=by
 refine aL Tryz.cfg _ (fn:=Tryz.f168) rfl rfl ?_
 refine ah.mk (fun a1=>?_) (fun a1=>?_)
 ·rw [show eA l=false by simp [eA,okP, *]];rfl
 refine ah.mk (fun a2=>?_) (fun a2=>?_)
 ·rw [show eA l=false by simp [eA,okP, *]];rfl
 refine aB.round (nt:=29) (fx:=[]) ?_
 refine ah.yes rfl ?_
 refine ab.mk _ rfl ?_
 refine ah.mk (fun b0=>?_) (fun b0=>?_)
 ·rw [show eA l=false by simp [eA,okP, *]];rfl
 refine ah.mk (fun c0=>?_) (fun c0=>?_)
 ·rw [show eA l=false by simp [eA,okP, *]];rfl
 refine ab.mk _ rfl ?_
 refine aB.round (nt:=29) (fx:=[]) ?_
 refine ah.yes rfl ?_
 refine ab.mk _ rfl ?_
 refine ah.mk (fun b1=>?_) (fun b1=>?_)
 ·rw [show eA l=false by simp [eA,okP, *]];rfl
 refine ah.mk (fun c1=>?_) (fun c1=>?_)
 ·rw [show eA l=false by simp [eA,okP, *]];rfl
 refine ab.mk _ rfl ?_
 refine aB.round (nt:=29) (fx:=[]) ?_
 refine ah.yes rfl ?_
 refine ab.mk _ rfl ?_
 refine ah.mk (fun b2=>?_) (fun b2=>?_)
 ·rw [show eA l=false by simp [eA,okP, *]];rfl
 refine ah.mk (fun c2=>?_) (fun c2=>?_)
 ·rw [show eA l=false by simp [eA,okP, *]];rfl
 refine ab.mk _ rfl ?_
 refine aB.round (nt:=29) (fx:=[]) ?_
 refine ah.yes rfl ?_
 refine ab.mk _ rfl ?_
 refine ah.mk (fun b3=>?_) (fun b3=>?_)
 ·rw [show eA l=false by simp [eA,okP, *]];rfl
 refine ah.mk (fun c3=>?_) (fun c3=>?_)
 ·rw [show eA l=false by simp [eA,okP, *]];rfl
 refine ab.mk _ rfl ?_
 refine aB.round (nt:=29) (fx:=[]) ?_
 refine ah.no rfl ?_
 refine ag.mk _ _ (OQ n l _) ?_
 refine ab.mk _ (Qs _ _) ?_
 rw [show eA l=decide (qY l=l) by simp [eA,okP, *]]
 rfl
theorem OS (n:Nat) (l:Lv) (S:St):RN (n + 8) (.f 168) [enc l] S=some (.bool (eA l),S):=
 jS (H3 n l) rfl rfl rfl rfl rfl
noncomputable def H4:Lv:=⟨0,0,0,0,0⟩
@[reducible] def L5 (r:Lv×Int):V:=.tuple [enc r.1,.int .i64 r.2]
noncomputable def Lv.set (i v:Int) (l:Lv):Lv:=bif iEq i 0 then { l with p0:=v } else bif iEq i 1 then { l with p1:=v } else bif iEq i 2 then { l with p2:=v } else { l with p3:=v }
noncomputable def Lv.get (i:Int) (l:Lv):Int:=bif iEq i 0 then l.p0 else bif iEq i 1 then l.p1 else bif iEq i 2 then l.p2 else l.p3
@[reducible] def xe:Lv:=⟨0,-1,-1,-1,-1⟩
theorem OT (n:Nat) (S:St):RN (n + 6) (.f 59) [] S=some (enc xe,S):=
 jS (v:=enc xe) (S':=St.empty) (aL Tryz.cfg _ (fn:=Tryz.f59) rfl rfl (by
  iterate 4
   refine aB.round (nt:=10) (fx:=[]) ?_
   refine ah.yes rfl ?_
   refine ab.mk _ rfl ?_
   refine ab.mk _ rfl ?_
  refine aB.round (nt:=10) (fx:=[]) ?_
  refine ah.no rfl ?_
  rfl)) rfl rfl rfl rfl rfl
noncomputable def bY (i:Int):Lv×Int:=bif iLt i 0 || !iLt i 4 then (H4,1) else (xe.set i 0,0)
theorem Bc {a b:Int}:iLt a b=true↔a < b:=by rw [cb];simp
theorem sN {a b:Int}:iLt a b=false↔b≤a:=by rw [cb];simp
theorem H5 (n:Nat) (i:Int):frame Tryz.cfg (RN (n + 6)) (n + 6) 18 [.int .i64 i] St.empty=some (L5 (bY i),St.empty):=by
 refine aL Tryz.cfg _ (fn:=Tryz.f18) rfl rfl ?_
 refine ag.mk _ _ (OT n _) ?_
 refine ah.mk (fun h=>?_) (fun h=>?_)
 ·rw [show bY i=(H4,1) by simp [bY,h]];rfl
 ·refine ah.mk (fun h2=>?_) (fun h2=>?_)
  ·rw [show bY i=(H4,1) by simp [bY,h2]];rfl
  ·have h3:=sN.1 h
   have h4:i < 4:=Bc.1 (by simpa using h2)
   have h5:i=0∨i=1∨i=2∨i=3:=by omega
   rcases h5 with rfl | rfl | rfl | rfl<;>(refine ab.mk _ rfl ?_;rfl)
theorem OU (n:Nat) (i:Int) (S:St):RN (n + 7) (.f 18) [.int .i64 i] S=some (L5 (bY i),S):=jS (H5 n i) rfl rfl rfl rfl rfl
def Vd (l:Lv):Prop:=0≤l.c∧l.c≤TOP∧(-1≤l.p0∧l.p0≤TOP)∧(-1≤l.p1∧l.p1≤TOP)∧(-1≤l.p2∧l.p2≤TOP)∧(-1≤l.p3∧l.p3≤TOP)∧
 (l.c=0∨(l.p0 < l.c∧l.p1 < l.c∧l.p2 < l.c∧l.p3 < l.c))
theorem L6 {p:Int}:okP p=true↔-1≤p∧p≤TOP:=by
 unfold okP
 rw [cb,cb]
 simp
theorem JN {α:Type} (b:Bool) (x y:α):(bif b then x else y)=if b=true then x else y:=by cases b<;>rfl
noncomputable def fs (p c:Int):Int:=if p < 0 then c else if p < c then c else 0
theorem Df (l:Lv):qY l={ l with c:=fs l.p3 (fs l.p2 (fs l.p1 (fs l.p0 l.c))) }:=by
 unfold qY uR uR uR uR uR fs uQ
 simp only [cb,JN,decide_eq_true_eq]
 split<;>split<;>split<;>split<;>rfl
theorem OV {l:Lv} (hc:0≤l.c):(qY l).c=if l.c≤l.p0∨l.c≤l.p1∨l.c≤l.p2∨l.c≤l.p3 then 0 else l.c:=by
 rw [Df]
 show fs l.p3 (fs l.p2 (fs l.p1 (fs l.p0 l.c)))=_
 unfold fs
 repeat' split
 all_goals first | rfl | omega
theorem Lv.ext' {a b:Lv} (h:a.c=b.c) (h0:a.p0=b.p0) (h1:a.p1=b.p1) (h2:a.p2=b.p2) (h3:a.p3=b.p3):a=b:=by
 cases a;cases b;simp_all
theorem xf {l:Lv} (hc:0≤l.c):qY l=l↔(l.c=0∨(l.p0 < l.c∧l.p1 < l.c∧l.p2 < l.c∧l.p3 < l.c)):=by
 have h:=OV hc
 constructor
 ·intro e
  rw [e] at h
  split at h<;>omega
 ·intro e
  refine Lv.ext' ?_ ?_ ?_ ?_ ?_
  ·rw [h];split<;>omega
  all_goals rw [Df]
theorem JO {l:Lv}:eA l=true↔Vd l:=by
 unfold eA Vd
 simp only [Bool.and_eq_true,L6,Bool.not_eq_true',sN,decide_eq_true_eq]
 constructor
 ·rintro⟨h1,h2,h3,h4,h5,h6,h7⟩
  exact⟨h1,h2,h3,h4,h5,h6,(xf h1).1 h7⟩
 ·rintro⟨h1,h2,h3,h4,h5,h6,h7⟩
  exact⟨h1,h2,h3,h4,h5,h6,(xf h1).2 h7⟩
theorem xg {n:Int} (h:0≤n) (h2:n≤9223372036854775807):ep .i64 n=n:=by
 cases n with
 | ofNat m=>
  show (bif Nat.ble m 9223372036854775807 then Int.ofNat m else _)=_
  rw [show Nat.ble m 9223372036854775807=true from Nat.ble_eq_true_of_le (by simp only [aOn] at h2;omega)]
  rfl
 | negSucc m=>omega
@[reducible] def SE (tok:Tok) (bys:List Lv):V:=.list 5 tok 0 (bys.map enc)
noncomputable def qx:Code→List Code
 | .seq a b=>qx a++qx b
 | .block _ b=>qx b
 | .loop b=>[b]
 | _=>[]
noncomputable def jr (fn:Func) (j:Nat):Code:=(((fn.body.map qx).getD [])[j]?).getD .skip
theorem Gw {tok:Tok} {bys:List Lv} {j:Nat} {b:Lv} (h:bys[j]?=some b):indexAddr Tryz.cfg 22 (SE tok bys) (.int .i64 (.ofNat j))=some (.imm 0 (dQ b)):=by
 have hj:j < bys.length:=(aGs h).1
 show (match below (.int .i64 (.ofNat j)) (aG (bys.map enc)) with
  | some i=>match nth (bys.map enc) i with
   | some r=>bif Nat.beq 5 5 then some (V.imm 0 r.cells) else none
   | none=>none
  | none=>none)=_
 have e1:below (.int .i64 (.ofNat j)) (aG (bys.map enc))=some j:=by
  unfold below
  rw [an,aLm]
  show (bif Nat.blt j bys.length then some j else none)=some j
  rw [show Nat.blt j bys.length=true by rw [Nat.blt_eq];exact hj]
  rfl
 rw [e1]
 simp only
 rw [bR,List.getElem?_map,h]
 rfl
theorem az {T j:Nat} (h:j < 9223372036854775807):binOp Tryz.cfg .add T (.int .i64 (.ofNat j)) (.int .i64 1)=some (.int .i64 (.ofNat (j + 1))):=by
 show some (V.int .i64 (bif Nat.ble (j + 1) 9223372036854775807 then Int.ofNat (j + 1) else _))=_
 rw [show Nat.ble (j + 1) 9223372036854775807=true from Nat.ble_eq_true_of_le h]
 rfl
noncomputable def Dg:Code→Bool
 | .seq _ b=>Dg b
 | .block _ (.loop _)=>true
 | _=>false
noncomputable def zu:Code→Option Code
 | .seq a b=>match Dg a with
  | true=>some b
  | false=>zu b
 | _=>none
theorem OW (n:Nat) (S:St):RN (n + 1) (.f 68) [] S=some (enc xe,S):=
 jS (v:=enc xe) (S':=St.empty) (aL Tryz.cfg _ (fn:=Tryz.f68) rfl rfl rfl) rfl rfl rfl rfl rfl
theorem H6 (n:Nat) (i:Int):frame Tryz.cfg (RN (n + 1)) (n + 1) 22 [.int .i64 i] St.empty=some (L5 (bY i),St.empty):=by
 refine aL Tryz.cfg _ (fn:=Tryz.f22) rfl rfl ?_
 refine ah.mk (fun h=>?_) (fun h=>?_)
 ·rw [show bY i=(H4,1) by simp [bY,h]];rfl
 ·refine ah.mk (fun h2=>?_) (fun h2=>?_)
  ·rw [show bY i=(H4,1) by simp [bY,h2]];rfl
  ·have h3:=sN.1 h
   have h4:i < 4:=Bc.1 (by simpa using h2)
   have h5:i=0∨i=1∨i=2∨i=3:=by omega
   refine ag.mk _ _ (OW n _) ?_
   rcases h5 with rfl | rfl | rfl | rfl<;>(refine ab.mk _ rfl ?_;rfl)
theorem OX (n:Nat) (i:Int) (S:St):RN (n + 2) (.f 22) [.int .i64 i] S=some (L5 (bY i),S):=jS (H6 n i) rfl rfl rfl rfl rfl
noncomputable def okR (c p:Int):Bool:=!iLt p (-1) && (!iLt TOP p && !(!iLt p c && (!iLt p 0 && iLt 0 c)))
noncomputable def pO (l:Lv):Bool:=!iLt l.c 0 && (!iLt TOP l.c && (okR l.c l.p0 && (okR l.c l.p1 && (okR l.c l.p2 && okR l.c l.p3))))
noncomputable def Dh:Code:=jr Tryz.f142 0
theorem L7 (R:Run) (k j:Nat) (l:Lv) (S:St) (K:Ex→Env→St→Prop) (hx:okR l.c l.p0=false→K .ret { nt:=49,tmps:=[(2,.bool false)],locs:=[(1,dQ l)],fix:=[] } S)
 (hn:okR l.c l.p0=true→aB (iter (evalCode Tryz.cfg R k 142 (Tryz.cfg.fc 142) Dh) j { nt:=49,tmps:=[(1,.ptr (.loc 1) 0),(3,.int .i64 1)],locs:=[(1,dQ l)],fix:=[] } S) K) :
 aB (iter (evalCode Tryz.cfg R k 142 (Tryz.cfg.fc 142) Dh) (j + 1) { nt:=49,tmps:=[(1,.ptr (.loc 1) 0),(3,.int .i64 0)],locs:=[(1,dQ l)],fix:=[] } S) K:=by
 refine aB.round (nt:=49) (fx:=[]) ?_
 refine ah.yes rfl ?_
 refine ab.mk _ rfl ?_
 refine ah.mk (fun h1=>?_) (fun h1=>?_)
 ·exact hx (by simp [okR,h1])
 refine ab.mk _ rfl ?_
 refine ah.mk (fun h2=>?_) (fun h2=>?_)
 ·exact hx (by simp [okR,h2])
 refine ab.mk _ rfl ?_
 refine ah.mk (fun h3=>?_) (fun h3=>?_)
 ·refine ab.mk _ rfl ?_
  refine ah.mk (fun h4=>?_) (fun h4=>?_)
  ·refine ah.mk (fun h5=>?_) (fun h5=>?_)
   ·exact hx (by simp at h3 h4;simp [okR,h3,h4,h5])
   ·refine ab.mk _ rfl ?_
    exact hn (by simp [okR,h1,h2,h5])
  ·refine ab.mk _ rfl ?_
   exact hn (by simp at h4;simp [okR,h1,h2,h4])
 ·refine ab.mk _ rfl ?_
  exact hn (by simp at h3;simp [okR,h1,h2,h3])
theorem L8 (R:Run) (k j:Nat) (l:Lv) (S:St) (K:Ex→Env→St→Prop) (hx:okR l.c l.p1=false→K .ret { nt:=49,tmps:=[(2,.bool false)],locs:=[(1,dQ l)],fix:=[] } S)
 (hn:okR l.c l.p1=true→aB (iter (evalCode Tryz.cfg R k 142 (Tryz.cfg.fc 142) Dh) j { nt:=49,tmps:=[(1,.ptr (.loc 1) 0),(3,.int .i64 2)],locs:=[(1,dQ l)],fix:=[] } S) K) :
 aB (iter (evalCode Tryz.cfg R k 142 (Tryz.cfg.fc 142) Dh) (j + 1) { nt:=49,tmps:=[(1,.ptr (.loc 1) 0),(3,.int .i64 1)],locs:=[(1,dQ l)],fix:=[] } S) K:=by
 refine aB.round (nt:=49) (fx:=[]) ?_
 refine ah.yes rfl ?_
 refine ab.mk _ rfl ?_
 refine ah.mk (fun h1=>?_) (fun h1=>?_)
 ·exact hx (by simp [okR,h1])
 refine ab.mk _ rfl ?_
 refine ah.mk (fun h2=>?_) (fun h2=>?_)
 ·exact hx (by simp [okR,h2])
 refine ab.mk _ rfl ?_
 refine ah.mk (fun h3=>?_) (fun h3=>?_)
 ·refine ab.mk _ rfl ?_
  refine ah.mk (fun h4=>?_) (fun h4=>?_)
  ·refine ah.mk (fun h5=>?_) (fun h5=>?_)
   ·exact hx (by simp at h3 h4;simp [okR,h3,h4,h5])
   ·refine ab.mk _ rfl ?_
    exact hn (by simp [okR,h1,h2,h5])
  ·refine ab.mk _ rfl ?_
   exact hn (by simp at h4;simp [okR,h1,h2,h4])
 ·refine ab.mk _ rfl ?_
  exact hn (by simp at h3;simp [okR,h1,h2,h3])
theorem L9 (R:Run) (k j:Nat) (l:Lv) (S:St) (K:Ex→Env→St→Prop) (hx:okR l.c l.p2=false→K .ret { nt:=49,tmps:=[(2,.bool false)],locs:=[(1,dQ l)],fix:=[] } S)
 (hn:okR l.c l.p2=true→aB (iter (evalCode Tryz.cfg R k 142 (Tryz.cfg.fc 142) Dh) j { nt:=49,tmps:=[(1,.ptr (.loc 1) 0),(3,.int .i64 3)],locs:=[(1,dQ l)],fix:=[] } S) K) :
 aB (iter (evalCode Tryz.cfg R k 142 (Tryz.cfg.fc 142) Dh) (j + 1) { nt:=49,tmps:=[(1,.ptr (.loc 1) 0),(3,.int .i64 2)],locs:=[(1,dQ l)],fix:=[] } S) K:=by
 refine aB.round (nt:=49) (fx:=[]) ?_
 refine ah.yes rfl ?_
 refine ab.mk _ rfl ?_
 refine ah.mk (fun h1=>?_) (fun h1=>?_)
 ·exact hx (by simp [okR,h1])
 refine ab.mk _ rfl ?_
 refine ah.mk (fun h2=>?_) (fun h2=>?_)
 ·exact hx (by simp [okR,h2])
 refine ab.mk _ rfl ?_
 refine ah.mk (fun h3=>?_) (fun h3=>?_)
 ·refine ab.mk _ rfl ?_
  refine ah.mk (fun h4=>?_) (fun h4=>?_)
  ·refine ah.mk (fun h5=>?_) (fun h5=>?_)
   ·exact hx (by simp at h3 h4;simp [okR,h3,h4,h5])
   ·refine ab.mk _ rfl ?_
    exact hn (by simp [okR,h1,h2,h5])
  ·refine ab.mk _ rfl ?_
   exact hn (by simp at h4;simp [okR,h1,h2,h4])
 ·refine ab.mk _ rfl ?_
  exact hn (by simp at h3;simp [okR,h1,h2,h3])
theorem Ma (R:Run) (k j:Nat) (l:Lv) (S:St) (K:Ex→Env→St→Prop) (hx:okR l.c l.p3=false→K .ret { nt:=49,tmps:=[(2,.bool false)],locs:=[(1,dQ l)],fix:=[] } S)
 (hn:okR l.c l.p3=true→aB (iter (evalCode Tryz.cfg R k 142 (Tryz.cfg.fc 142) Dh) j { nt:=49,tmps:=[(1,.ptr (.loc 1) 0),(3,.int .i64 4)],locs:=[(1,dQ l)],fix:=[] } S) K) :
 aB (iter (evalCode Tryz.cfg R k 142 (Tryz.cfg.fc 142) Dh) (j + 1) { nt:=49,tmps:=[(1,.ptr (.loc 1) 0),(3,.int .i64 3)],locs:=[(1,dQ l)],fix:=[] } S) K:=by
 refine aB.round (nt:=49) (fx:=[]) ?_
 refine ah.yes rfl ?_
 refine ab.mk _ rfl ?_
 refine ah.mk (fun h1=>?_) (fun h1=>?_)
 ·exact hx (by simp [okR,h1])
 refine ab.mk _ rfl ?_
 refine ah.mk (fun h2=>?_) (fun h2=>?_)
 ·exact hx (by simp [okR,h2])
 refine ab.mk _ rfl ?_
 refine ah.mk (fun h3=>?_) (fun h3=>?_)
 ·refine ab.mk _ rfl ?_
  refine ah.mk (fun h4=>?_) (fun h4=>?_)
  ·refine ah.mk (fun h5=>?_) (fun h5=>?_)
   ·exact hx (by simp at h3 h4;simp [okR,h3,h4,h5])
   ·refine ab.mk _ rfl ?_
    exact hn (by simp [okR,h1,h2,h5])
  ·refine ab.mk _ rfl ?_
   exact hn (by simp at h4;simp [okR,h1,h2,h4])
 ·refine ab.mk _ rfl ?_
  exact hn (by simp at h3;simp [okR,h1,h2,h3])
theorem H7 (R:Run) (n:Nat) (l:Lv):frame Tryz.cfg R (n + 5) 142 [enc l] St.empty=some (.bool (pO l),St.empty):=by
 refine aL Tryz.cfg _ (fn:=Tryz.f142) rfl rfl ?_
 refine ah.mk (fun a1=>?_) (fun a1=>?_)
 ·rw [show pO l=false by simp [pO,a1]];rfl
 refine ah.mk (fun a2=>?_) (fun a2=>?_)
 ·rw [show pO l=false by simp [pO,a2]];rfl
 refine L7 R _ _ l _ _ (fun h=>?_) (fun h0=>?_)
 ·rw [show pO l=false by simp [pO,h]];rfl
 refine L8 R _ _ l _ _ (fun h=>?_) (fun h1=>?_)
 ·rw [show pO l=false by simp [pO,h]];rfl
 refine L9 R _ _ l _ _ (fun h=>?_) (fun h2=>?_)
 ·rw [show pO l=false by simp [pO,h]];rfl
 refine Ma R _ _ l _ _ (fun h=>?_) (fun h3=>?_)
 ·rw [show pO l=false by simp [pO,h]];rfl
 refine aB.round (nt:=49) (fx:=[]) ?_
 refine ah.no rfl ?_
 rw [show pO l=true by simp [pO, *]]
 rfl
theorem Mb (l:Lv):pO l=eA l:=by
 rw [Bool.eq_iff_iff,JO]
 unfold pO okR Vd
 simp only [Bool.and_eq_true,Bool.not_eq_true',sN,Bool.and_eq_false_iff,Bool.not_eq_false',Bc]
 constructor
 ·rintro⟨h1,h2,⟨a1,a2,a3⟩,⟨b1,b2,b3⟩,⟨c1,c2,c3⟩,d1,d2,d3⟩
  exact⟨h1,h2,⟨a1,a2⟩,⟨b1,b2⟩,⟨c1,c2⟩,⟨d1,d2⟩,by omega⟩
 ·rintro⟨h1,h2,⟨a1,a2⟩,⟨b1,b2⟩,⟨c1,c2⟩,⟨d1,d2⟩,h⟩
  exact⟨h1,h2,⟨a1,a2,by omega⟩,⟨b1,b2,by omega⟩,⟨c1,c2,by omega⟩,d1,d2,by omega⟩
theorem OY (n:Nat) (l:Lv) (S:St):RN (n + 6) (.f 142) [enc l] S=some (.bool (eA l),S):=by
 rw [← Mb]
 exact jS (H7 _ n l) rfl rfl rfl rfl rfl
inductive Tm where
 | mk (k n:Int) (s:List UInt8) (a b c d:Bool) (ls:List Lv) (ts:List Tm)
noncomputable def Tm.k:Tm→Int | .mk k _ _ _ _ _ _ _ _=>k
noncomputable def Tm.n:Tm→Int | .mk _ n _ _ _ _ _ _ _=>n
noncomputable def Tm.s:Tm→List UInt8 | .mk _ _ s _ _ _ _ _ _=>s
noncomputable def Tm.a:Tm→Bool | .mk _ _ _ a _ _ _ _ _=>a
noncomputable def Tm.b:Tm→Bool | .mk _ _ _ _ b _ _ _ _=>b
noncomputable def Tm.c:Tm→Bool | .mk _ _ _ _ _ c _ _ _=>c
noncomputable def Tm.d:Tm→Bool | .mk _ _ _ _ _ _ d _ _=>d
noncomputable def Tm.ls:Tm→List Lv | .mk _ _ _ _ _ _ _ ls _=>ls
noncomputable def Tm.ts:Tm→List Tm | .mk _ _ _ _ _ _ _ _ ts=>ts
noncomputable def au {α:Type} (a:Bool):List α→Nat
 | []=>match a with | true=>5 | false=>0
 | _::_=>5
noncomputable def av (b:Bool):Tok:=match b with | true=>.tight | false=>.no
mutual
noncomputable def OZ:Tm→V
 | .mk k n s a b c d ls ts=>.agg [.int .u8 k,.int .i64 n,.str s,.list (au a ls) (av b) 0 (ls.map enc),.list (au c ts) (av d) 0 (ae ts)]
noncomputable def ae:List Tm→List V
 | []=>[]
 | t::ts=>OZ t::ae ts
end
@[reducible] noncomputable def aC (x:Tm):List V:=[.int .u8 x.k,.int .i64 x.n,.str x.s,.list (au x.a x.ls) (av x.b) 0 (x.ls.map enc),.list (au x.c x.ts) (av x.d) 0 (ae x.ts)]
@[reducible] noncomputable def aH (x:Tm):V:=.agg (aC x)
theorem Mc (x:Tm):OZ x=aH x:=by cases x;rw [OZ];rfl
theorem cU (ts:List Tm):ae ts=ts.map aH:=by
 induction ts with
 | nil=>rw [ae];rfl
 | cons t ts ih=>rw [ae,ih,Mc];rfl
theorem al (ts:List Tm):aG (ae ts)=ts.length:=by rw [cU,an,aLm]
mutual
def wt:Tm→Nat
 | .mk _ _ s _ _ _ _ ls ts=>1 + s.length + ls.length + wts ts
def wts:List Tm→Nat
 | []=>0
 | t::ts=>1 + wt t + wts ts
end
theorem cr (x:Tm):wt x=1 + x.s.length + x.ls.length + wts x.ts:=by cases x;rw [wt];rfl
theorem hV (ts:List Tm):ts.length≤wts ts:=by
 induction ts with
 | nil=>simp
 | cons t ts ih=>rw [wts];simp only [aLc];omega
theorem Md {x:Tm} {ts:List Tm} (h:x∈ts):wt x < wts ts:=by
 induction ts with
 | nil=>cases h
 | cons t ts ih=>
  rw [wts]
  cases h with
  | head=>omega
  | tail _ h=>have:=ih h;omega
theorem cz {x y:Tm} (h:x∈y.ts):wt x < wt y:=by rw [cr y];have:=Md h;omega
theorem Tm.ind {p:Tm→Prop} (h:∀x,(∀y∈x.ts,p y)→p x) (x:Tm):p x:=by
 have:∀n,∀x,wt x < n→p x:=by
  intro n
  induction n with
  | zero=>intro x hx;omega
  | succ n ih=>intro x hx;exact h x (fun y hy=>ih y (by have:=cz hy;omega))
 exact this _ x (Nat.lt_succ_self _)
theorem xi {α:Type} {a:Bool} {l:List α} {j:Nat} {x:α} (h:l[j]?=some x):au a l=5:=by
 cases l with
 | nil=>simp at h
 | cons y l=>rfl
theorem pP {j m:Nat} (h:j < m):below (.int .i64 (.ofNat j)) m=some j:=by
 unfold below
 show (bif Nat.blt j m then some j else none)=some j
 rw [show Nat.blt j m=true by rw [Nat.blt_eq];exact h]
 rfl
theorem bJ {ts:List Tm} {c:Bool} {tk:Tok} {j:Nat} {x:Tm} (h:ts[j]?=some x):indexAddr Tryz.cfg 23 (.list (au c ts) tk 0 (ae ts)) (.int .i64 (.ofNat j))=some (.imm 0 (aC x)):=by
 have hj:j < ts.length:=(aGs h).1
 rw [xi h]
 show (match below (.int .i64 (.ofNat j)) (aG (ae ts)) with
  | some i=>match nth (ae ts) i with
   | some r=>bif Nat.beq 5 5 then some (V.imm 0 r.cells) else none
   | none=>none
  | none=>none)=_
 rw [al,pP hj]
 simp only
 rw [bR,cU,List.getElem?_map,h]
 rfl
theorem sO {ls:List Lv} {a:Bool} {tk:Tok} {j:Nat} {x:Lv} (h:ls[j]?=some x):indexAddr Tryz.cfg 22 (.list (au a ls) tk 0 (ls.map enc)) (.int .i64 (.ofNat j))=some (.imm 0 (dQ x)):=by
 rw [xi h];exact Gw h
theorem od {T j:Nat} (h:j < 9223372036854775807):binOp Tryz.cfg .sub T (.int .i64 (.ofNat (j + 1))) (.int .i64 1)=some (.int .i64 (.ofNat j)):=by
 show some (V.int .i64 (ep .i64 (((j + 1:Nat):Int) - 1)))=_
 rw [show (((j + 1:Nat):Int) - 1)=(j:Int) by omega,xg (by omega) (by omega)]
 rfl
theorem dC {a b:Nat} (h:a < b):Nat.blt a b=true:=by rw [Nat.blt_eq];exact h
theorem fJ {a b:Nat} (h:¬a < b):Nat.blt a b=false:=by
 cases hq:Nat.blt a b with
 | false=>rfl
 | true=>rw [Nat.blt_eq] at hq;omega
theorem gE {j:Nat} {ts:List Tm} (h:j < ts.length):iLt (.ofNat j) (.ofNat (aG (ae ts)))=true:=by rw [al];exact dC h
theorem gG {j:Nat} {ts:List Tm} (h:¬j < ts.length):iLt (.ofNat j) (.ofNat (aG (ae ts)))=false:=by rw [al];exact fJ h
theorem Be {j:Nat} {ls:List Lv} (h:j < ls.length):iLt (.ofNat j) (.ofNat (aG (ls.map enc)))=true:=by rw [an,aLm];exact dC h
theorem Bf {j:Nat} {ls:List Lv} (h:¬j < ls.length):iLt (.ofNat j) (.ofNat (aG (ls.map enc)))=false:=by rw [an,aLm];exact fJ h
theorem rfB {S:St} {a b:Bool} (h:a=b):some (V.bool a,S)=some (V.bool b,S):=by rw [h]
theorem rfI {S:St} {a b:Int} (h:a=b):some (V.int .i64 a,S)=some (V.int .i64 b,S):=by rw [h]
noncomputable def Di:Option Nat→V | some l=>.int .i64 (.ofNat l) | none=>.int .i64 (-1)
mutual
noncomputable def de (p:Tm→Bool):Tm→Nat→Nat→Option Nat
 | .mk k n s a b c d ls ts,left,down=>match left,down with
  | l + 1,dn + 1=>match p (.mk k n s a b c d ls ts) with
   | true=>dD p ts l dn
   | false=>none
  | _,_=>none
noncomputable def dD (p:Tm→Bool):List Tm→Nat→Nat→Option Nat
 | [],l,_=>some l
 | t::ts,l,dn=>match de p t l dn with
  | some l'=>dD p ts l' dn
  | none=>none
end
theorem js (p:Tm→Bool) (x:Tm) (left down:Nat):de p x left down=match left,down with
 | l + 1,dn + 1=>match p x with
  | true=>dD p x.ts l dn
  | false=>none
 | _,_=>none:=by cases x;unfold de;rfl
theorem eJ (p:Tm→Bool) (t:Tm) (ts:List Tm) (l dn:Nat):dD p (t::ts) l dn=match de p t l dn with
 | some l'=>dD p ts l' dn
 | none=>none:=by rw [dD]
theorem sP (p:Tm→Bool) (x:Tm):∀{l dn l' : Nat},de p x l dn=some l'→l' < l:=by
 induction x using Tm.ind with
 | h x ih=>
  intro l dn l' h
  rw [js] at h
  split at h
  ·rename_i l dn
   split at h
   ·have key:∀(ts:List Tm),(∀y∈ts,y∈x.ts)→∀{l l'},dD p ts l dn=some l'→l'≤l:=by
     intro ts
     induction ts with
     | nil=>intro _ l l' h;rw [dD] at h;cases h;omega
     | cons t ts ih2=>
      intro hm l l' h
      rw [eJ] at h
      split at h
      ·rename_i l1 h1
       have:=ih t (hm t aMs) h1
       have:=ih2 (fun y hy=>hm y (aMt _ hy)) h
       omega
      ·cases h
    have:=key x.ts (fun _ h=>h) h
    omega
   ·cases h
  ·cases h
theorem gQ (sz:Nat) (b:Bool) (top:Nat) (rows:List V):aj (.list sz (av b) top rows)=.list sz (av b) top rows:=by cases b<;>rfl
theorem fu (x:Tm):(aH x).strip=aH x:=by
 show V.agg [_,_,_,aj (.list _ (av x.b) 0 _),aj (.list _ (av x.d) 0 _)]=_
 rw [gQ,gQ]
 rfl
theorem aq:bg V.strip []=[]:=rfl
theorem br (x:Tm) (l:List V):bg V.strip (aH x::l)=aH x::bg V.strip l:=by
 show (aH x).strip::bg V.strip l=_
 rw [fu]
theorem bx (k:IntKind) (i:Int) (l:List V):bg V.strip (.int k i::l)=.int k i::bg V.strip l:=rfl
theorem dp (sz:Nat) (b:Bool) (top:Nat) (rows:List V) (l:List V):bg V.strip (.list sz (av b) top rows::l)=.list sz (av b) top rows::bg V.strip l:=by
 show (V.list sz (av b) top rows).strip::bg V.strip l=_
 rw [show (V.list sz (av b) top rows).strip=aj (.list sz (av b) top rows) from rfl,gQ]
noncomputable def aY (k i:Int):Int:=bif (iEq k 5 || iEq k 6) && iEq i 1 then 1 else bif iEq k 7 && iEq i 2 then 1 else 0
theorem EO (n:Nat) (x:Tm) (i:Int):frame Tryz.cfg (RN n) n 88 [aH x,.int .i64 i] St.empty=some (.int .i64 (aY x.k i),St.empty):=by
 refine aL Tryz.cfg _ (fn:=Tryz.f88) rfl rfl ?_
 refine ah.mk (fun h5=>?_) (fun h5=>?_)
 ·refine ah.mk (fun h1=>?_) (fun h1=>?_)
  ·exact rfI (by simp [aY,h5,h1])
  ·refine ah.mk (fun h7=>?_) (fun h7=>?_)
   ·refine ah.mk (fun h2=>?_) (fun h2=>?_)
    ·exact rfI (by simp [aY,h5,h1,h7,h2])
    ·exact rfI (by simp [aY,h5,h1,h7,h2])
   ·exact rfI (by simp [aY,h5,h1,h7])
 ·refine ah.mk (fun h6=>?_) (fun h6=>?_)
  ·refine ah.mk (fun h1=>?_) (fun h1=>?_)
   ·exact rfI (by simp [aY,h5,h6,h1])
   ·refine ah.mk (fun h7=>?_) (fun h7=>?_)
    ·refine ah.mk (fun h2=>?_) (fun h2=>?_)
     ·exact rfI (by simp [aY,h5,h6,h1,h7,h2])
     ·exact rfI (by simp [aY,h5,h6,h1,h7,h2])
    ·exact rfI (by simp [aY,h5,h6,h1,h7])
  ·refine ah.mk (fun h7=>?_) (fun h7=>?_)
   ·refine ah.mk (fun h2=>?_) (fun h2=>?_)
    ·exact rfI (by simp [aY,h5,h6,h7,h2])
    ·exact rfI (by simp [aY,h5,h6,h7,h2])
   ·exact rfI (by simp [aY,h5,h6,h7])
theorem Me (n:Nat) (x:Tm) (i:Int) (S:St):RN (n + 1) (.f 88) [aH x,.int .i64 i] S=some (.int .i64 (aY x.k i),S):=bG (EO n x i) (by simp only [br,bx,aq]) rfl rfl rfl rfl rfl
noncomputable def jt (x:Tm):Bool:=Nat.ble x.ls.length 20
noncomputable def Qt:Code:=jr Tryz.f41 0
theorem Gx (n k:Nat) (x:Tm) (d:Nat) (hd:d < 1000000) (S:St) (K:Ex→Env→St→Prop)
 (dy:∀y∈x.ts,∀l,l < 1000000→RN n (.f 41) [aH y,.int .i64 (.ofNat l),.int .i64 (.ofNat d)] S=some (Di (de jt y l d),S)) :
 ∀(rem:List Tm) (j f l:Nat),rem.length < f→(∀i,rem[i]?=x.ts[j + i]?)→j + rem.length=x.ts.length→l < 1000000→j < 1000000→l + j < 1000000→
 (match dD jt rem l d with
  | some l'=>K (.exit 0) { nt:=41,tmps:=[(1,.int .i64 (.ofNat l')),(2,.int .i64 (.ofNat (d + 1))),(3,.ptr (.loc 3) 0),(7,.int .i64 (.ofNat x.ts.length)),(26,.bool false)],locs:=[(3,aC x)],fix:=[] } S
  | none=>K .ret { nt:=41,tmps:=[(6,.int .i64 (-1))],locs:=[(3,aC x)],fix:=[] } S)→
 aB (iter (evalCode Tryz.cfg (RN n) k 41 (Tryz.cfg.fc 41) Qt) f { nt:=41,tmps:=[(1,.int .i64 (.ofNat l)),(2,.int .i64 (.ofNat (d + 1))),(3,.ptr (.loc 3) 0),(7,.int .i64 (.ofNat j))],locs:=[(3,aC x)],fix:=[] } S) K
 | [],j,f + 1,l,hf,hr,hj,hl,_,_,hK=>by
  have hjl:j=x.ts.length:=by simpa using hj
  subst hjl
  refine aB.round (nt:=41) (fx:=[]) ?_
  refine ah.no (gG (by omega)) ?_
  rw [dD] at hK
  exact hK
 | y::rem,j,f + 1,l,hf,hr,hj,hl,hj2,hlj,hK=>by
  have hb:x.ts[j]?=some y:=by have:=hr 0;simpa using this.symm
  have hjl:j < x.ts.length:=(aGs hb).1
  have hy:=dy y (aMg hb) l hl
  refine aB.round (nt:=41) (fx:=[]) ?_
  refine ah.yes (gE hjl) ?_
  refine ab.mk _ (bJ hb) ?_
  refine ab.mk _ (od (by omega)) ?_
  rw [eJ] at hK
  cases hs:de jt y l d with
  | none=>
   rw [hs] at hK hy
   refine ag.mk _ _ hy ?_
   refine ah.yes rfl ?_
   exact hK
  | some l'=>
   rw [hs] at hK hy
   have:=sP _ _ hs
   refine ag.mk _ _ hy ?_
   refine ah.no rfl ?_
   refine ab.mk _ (az (by omega)) ?_
   exact Gx n k x d hd S K dy rem (j + 1) f l' (by simp only [aLc] at hf;omega) (fun i=>by have:=hr (i + 1);simp only [List.getElem?_cons_succ] at this;rw [this];congr 1;omega) (by simp only [aLc] at hj;omega) (by omega) (by omega) (by omega) hK
theorem EP (n:Nat) (x:Tm) (l d:Nat) (hl:l < 1000000) (hd:d < 1000000) (hn:x.ts.length < n)
 (dy:∀y∈x.ts,∀l d,l < 1000000→d < 1000000→RN n (.f 41) [aH y,.int .i64 (.ofNat l),.int .i64 (.ofNat d)] St.empty=some (Di (de jt y l d),St.empty)) :
 frame Tryz.cfg (RN n) n 41 [aH x,.int .i64 (.ofNat l),.int .i64 (.ofNat d)] St.empty=some (Di (de jt x l d),St.empty):=by
 refine aL Tryz.cfg _ (fn:=Tryz.f41) rfl rfl ?_
 rw [js]
 cases l with
 | zero=>refine ab.mk _ rfl ?_;refine ah.yes rfl ?_;rfl
 | succ l=>
 refine ab.mk _ (od (by omega)) ?_
 refine ah.no rfl ?_
 cases d with
 | zero=>refine ah.yes rfl ?_;rfl
 | succ d=>
 refine ah.no rfl ?_
 simp only
 cases hq:jt x with
 | false=>
  refine ah.yes ?_ ?_
  ·show iLt (.ofNat 20) (.ofNat (aG (x.ls.map enc)))=true
   rw [an,aLm]
   unfold jt at hq
   exact dC (by
    by_cases h:x.ls.length≤20
    ·rw [Nat.ble_eq_true_of_le h] at hq;cases hq
    ·omega)
  ·rfl
 | true=>
  refine ah.no ?_ ?_
  ·show iLt (.ofNat 20) (.ofNat (aG (x.ls.map enc)))=false
   rw [an,aLm]
   unfold jt at hq
   exact fJ (by have:=Nat.le_of_ble_eq_true hq;omega)
  refine Gx n n x d (by omega) _ _ (fun y hy l hl=>dy y hy l d hl (by omega)) x.ts 0 n l hn (fun i=>by rw [Nat.zero_add]) (by rw [Nat.zero_add]) (by omega) (by omega) (by omega) ?_
  cases hs:dD jt x.ts l d<;>rfl
theorem Gy:∀(n:Nat) (x:Tm) (l d:Nat) (S:St),l < 1000000→d < 1000000→wt x < n→RN n (.f 41) [aH x,.int .i64 (.ofNat l),.int .i64 (.ofNat d)] S=some (Di (de jt x l d),S)
 | 0,x,l,d,S,_,_,h=>by omega
 | n + 1,x,l,d,S,hl,hd,h=>by
  have hn:x.ts.length < n:=by have:=hV x.ts;rw [cr] at h;omega
  have:=EP n x l d hl hd hn (fun y hy l d hl hd=>Gy n y l d _ hl hd (by have:=cz hy;omega))
  cases hs:de jt x l d with
  | none=>rw [hs] at this;exact bG this (by simp only [br,bx,aq]) rfl rfl rfl rfl rfl
  | some l'=>rw [hs] at this;exact bG this (by simp only [br,bx,aq]) rfl rfl rfl rfl rfl
noncomputable def mH (x:Tm):Bool:=(de jt x 131072 8192).isNone
theorem H8 (n:Nat) (x:Tm) (h:wt x < n):frame Tryz.cfg (RN n) n 14 [aH x] St.empty=some (.bool (mH x),St.empty):=by
 refine aL Tryz.cfg _ (fn:=Tryz.f14) rfl rfl ?_
 have:=Gy n x 131072 8192 St.empty (by omega) (by omega) h
 unfold mH
 cases hs:de jt x 131072 8192 with
 | none=>rw [hs] at this;refine ag.mk _ _ this ?_;refine ah.yes rfl ?_;rfl
 | some l=>rw [hs] at this;refine ag.mk _ _ this ?_;refine ah.no rfl ?_;rfl
theorem O0 (n:Nat) (x:Tm) (S:St) (h:wt x < n):RN (n + 1) (.f 14) [aH x] S=some (.bool (mH x),S):=bG (H8 n x h) (by simp only [br,aq]) rfl rfl rfl rfl rfl
theorem addNat {T a b:Nat} (h:a + b < 9223372036854775807):binOp Tryz.cfg .add T (.int .i64 (.ofNat a)) (.int .i64 (.ofNat b))=some (.int .i64 (.ofNat (a + b))):=by
 show some (V.int .i64 (ep .i64 ((a:Int) + (b:Int))))=_
 rw [xg (by omega) (by omega)]
 rfl
mutual
noncomputable def dW:Tm→Nat
 | .mk _ _ _ _ _ _ _ _ ts=>1 + gB ts
noncomputable def gB:List Tm→Nat
 | []=>0
 | t::ts=>dW t + gB ts
end
theorem eM (x:Tm):dW x=1 + gB x.ts:=by cases x;rw [dW];rfl
theorem fR (t:Tm) (ts:List Tm):gB (t::ts)=dW t + gB ts:=by rw [gB]
theorem H9 (x:Tm):0 < dW x:=by rw [eM];omega
theorem jT (ts:List Tm):ts.length≤gB ts:=by
 induction ts with
 | nil=>simp
 | cons t ts ih=>rw [fR];have:=H9 t;simp only [aLc];omega
noncomputable def mxI (m n:Int):Int:=if n > m then n else m
noncomputable def dv (a b:Int):Int:=ep .i64 (a + b)
noncomputable def sQ (a b:Int):Int:=ep .i64 (a - b)
mutual
noncomputable def fS:Tm→Int→Int
 | .mk k n _ _ _ _ _ _ ts,aa=>bif iEq k 2 then mxI 0 (sQ (dv n 1) aa) else im k ts 0 aa 0
noncomputable def im (k:Int):List Tm→Nat→Int→Int→Int
 | [],_,_,acc=>acc
 | t::ts,i,aa,acc=>im k ts (i + 1) aa (mxI acc (fS t (dv aa (aY k (.ofNat i)))))
end
theorem nu (x:Tm) (aa:Int):fS x aa=bif iEq x.k 2 then mxI 0 (sQ (dv x.n 1) aa) else im x.k x.ts 0 aa 0:=by cases x;rw [fS];rfl
theorem mI (k:Int) (t:Tm) (ts:List Tm) (i:Nat) (aa acc:Int):im k (t::ts) i aa acc=im k ts (i + 1) aa (mxI acc (fS t (dv aa (aY k (.ofNat i))))):=by rw [im]
noncomputable def SF:Code:=jr Tryz.f40 0
theorem JP (n k:Nat) (x:Tm) (aa:Int) (S:St) (K:Ex→Env→St→Prop) (hlen:x.ts.length < 1000000000)
 (dy:∀y∈x.ts,∀a,RN (n + 1) (.f 40) [aH y,.int .i64 a] S=some (.int .i64 (fS y a),S)) :
 ∀(rem:List Tm) (j f:Nat) (acc:Int),rem.length < f→(∀i,rem[i]?=x.ts[j + i]?)→j + rem.length=x.ts.length→
 K (.exit 0) { nt:=37,tmps:=[(1,.int .i64 aa),(2,.ptr (.loc 2) 0),(5,.int .i64 (im x.k rem j aa acc)),(6,.int .i64 (.ofNat x.ts.length)),(20,.bool false)],locs:=[(2,aC x)],fix:=[] } S→
 aB (iter (evalCode Tryz.cfg (RN (n + 1)) k 40 (Tryz.cfg.fc 40) SF) f { nt:=37,tmps:=[(1,.int .i64 aa),(2,.ptr (.loc 2) 0),(5,.int .i64 acc),(6,.int .i64 (.ofNat j))],locs:=[(2,aC x)],fix:=[] } S) K
 | [],j,f + 1,acc,hf,hr,hj,hK=>by
  have hjl:j=x.ts.length:=by simpa using hj
  subst hjl
  refine aB.round (nt:=37) (fx:=[]) ?_
  refine ah.no (gG (by omega)) ?_
  rw [im] at hK
  exact hK
 | y::rem,j,f + 1,acc,hf,hr,hj,hK=>by
  have hb:x.ts[j]?=some y:=by have:=hr 0;simpa using this.symm
  have hjl:j < x.ts.length:=(aGs hb).1
  rw [mI] at hK
  refine aB.round (nt:=37) (fx:=[]) ?_
  refine ah.yes (gE hjl) ?_
  refine ab.mk _ (bJ hb) ?_
  refine ag.mk _ _ (Me n x (.ofNat j) _) ?_
  refine ab.mk _ rfl ?_
  refine ag.mk _ _ (dy y (aMg hb) _) ?_
  refine ab.mk _ (az (by omega)) ?_
  exact JP n k x aa S K hlen dy rem (j + 1) f _ (by simp only [aLc] at hf;omega) (fun i=>by have:=hr (i + 1);simp only [List.getElem?_cons_succ] at this;rw [this];congr 1;omega) (by simp only [aLc] at hj;omega) hK
theorem JQ:∀(n:Nat) (x:Tm) (aa:Int) (S:St),dW x < 1000000000→wt x < n→RN (n + 1) (.f 40) [aH x,.int .i64 aa] S=some (.int .i64 (fS x aa),S)
 | 0,x,aa,S,_,h=>by omega
 | n + 1,x,aa,S,hl,h=>by
  have hn:x.ts.length < n:=by have:=hV x.ts;rw [cr] at h;omega
  rw [eM] at hl
  have hlen:=jT x.ts
  have hk:∀y∈x.ts,dW y≤gB x.ts:=by
   have:∀(ts:List Tm),∀y∈ts,dW y≤gB ts:=by
    intro ts
    induction ts with
    | nil=>intro y hy;cases hy
    | cons t ts ih=>
     intro y hy
     rw [fR]
     cases hy with
     | head=>omega
     | tail _ hy=>have:=ih y hy;omega
   exact this x.ts
  have:frame Tryz.cfg (RN (n + 1)) (n + 1) 40 [aH x,.int .i64 aa] St.empty=some (.int .i64 (fS x aa),St.empty):=by
   refine aL Tryz.cfg _ (fn:=Tryz.f40) rfl rfl ?_
   rw [nu]
   refine ah.mk (fun h2=>?_) (fun h2=>?_)
   ·refine ab.mk _ rfl ?_
    refine ab.mk _ rfl ?_
    rw [h2]
    rfl
   ·refine JP n (n + 1) x aa _ _ (by omega) (fun y hy a=>JQ n y a _ (by have:=hk y hy;omega) (by have:=cz hy;omega)) x.ts 0 (n + 1) 0 (by omega) (fun i=>by rw [Nat.zero_add]) (by rw [Nat.zero_add]) ?_
    rw [h2]
    rfl
  exact bG this (by simp only [br,bx,aq]) rfl rfl rfl rfl rfl
theorem O1 (n:Nat) (x:Tm) (S:St) (hl:dW x < 1000000000) (h:wt x < n):RN (n + 2) (.f 13) [aH x] S=some (.int .i64 (fS x 0),S):=by
 have:frame Tryz.cfg (RN (n + 1)) (n + 1) 13 [aH x] St.empty=some (.int .i64 (fS x 0),St.empty):=by
  refine aL Tryz.cfg _ (fn:=Tryz.f13) rfl rfl ?_
  refine ag.mk _ _ (JQ n x 0 _ hl h) ?_
  rfl
 exact bG this (by simp only [br,bx,aq]) rfl rfl rfl rfl rfl
theorem ag.mkB {R:Run} {t:Tgt} {args:List V} {S:St} {K:V→St→Prop} {b:Bool} {S' : St} (h:R t args S=some (.bool b,S')) (kt:b=true→K (.bool true) S') (kf:b=false→K (.bool false) S'):ag R t args S K:=by
 cases b with
 | true=>exact ag.mk _ _ h (kt rfl)
 | false=>exact ag.mk _ _ h (kf rfl)
theorem ab.mkB {o:Option V} {K:V→Prop} {b:Bool} (h:o=some (.bool b)) (kt:b=true→K (.bool true)) (kf:b=false→K (.bool false)):ab o K:=by
 cases b with
 | true=>exact ab.mk _ h (kt rfl)
 | false=>exact ab.mk _ h (kf rfl)
theorem jJ {a b:List UInt8}:binOp Tryz.cfg .eql 9 (.str a) (.str b)=some (.bool (decide (a=b))):=gZ _
theorem re {a b:List UInt8}:binOp Tryz.cfg .neq 9 (.str a) (.str b)=some (.bool (!decide (a=b))):=gZ _
noncomputable def cF (k:Int):Int:=bif iEq k 1 || iEq k 2 || iEq k 3 then 0 else bif iEq k 4 || iEq k 5 || iEq k 6 then 2 else bif iEq k 7 then 3 else bif iEq k 8 then 1 else -1
theorem ER (n:Nat) (k:Int):frame Tryz.cfg (RN n) n 141 [.int .u8 k] St.empty=some (.int .i64 (cF k),St.empty):=by
 refine aL Tryz.cfg _ (fn:=Tryz.f141) rfl rfl ?_
 repeat' (refine ah.mk (fun _=>?_) (fun _=>?_))
 all_goals exact rfI (by simp [cF, *])
theorem Gz (n:Nat) (k:Int) (S:St):RN (n + 1) (.f 141) [.int .u8 k] S=some (.int .i64 (cF k),S):=jS (ER n k) rfl rfl rfl rfl rfl
noncomputable def chC (c:Int):Bool:=(!iLt c 97 && !iLt 122 c) || (!iLt c 65 && !iLt 90 c) || (!iLt c 48 && !iLt 57 c) || iEq c 95 || iEq c 46 || iEq c 39
noncomputable def chB (b:UInt8):Bool:=chC (.ofNat b.toNat)
noncomputable def mJ (s:List UInt8):Bool:=s.all chB && !iLt (.ofNat (aG s)) 1 && !iLt 32 (.ofNat (aG s))
theorem O2 {s:List UInt8} {j:Nat} {b:UInt8} (h:s[j]?=some b):index Tryz.cfg 9 (.str s) (.int .i64 (.ofNat j))=some (.int .u8 (.ofNat b.toNat)):=by
 have hj:j < s.length:=(aGs h).1
 show (match below (.int .i64 (.ofNat j)) (aG s) with
  | some i=>match nth s i with
   | some b=>some (V.int .u8 b.toNat)
   | none=>none
  | none=>none)=_
 rw [an,pP hj]
 simp only
 rw [bR,h]
 rfl
theorem O3 {j:Nat} {s:List UInt8} (h:j < s.length):iLt (.ofNat j) (.ofNat (aG s))=true:=by rw [an];exact dC h
theorem O4 {j:Nat} {s:List UInt8} (h:¬j < s.length):iLt (.ofNat j) (.ofNat (aG s))=false:=by rw [an];exact fJ h
noncomputable def NN:Code:=jr Tryz.f80 0
theorem GA (R:Run) (k:Nat) (s:List UInt8) (hs:s.length≤9223372036854775807) (S:St) (K:Ex→Env→St→Prop) :
 ∀(rem:List UInt8) (j f:Nat),rem.length < f→(∀i,rem[i]?=s[j + i]?)→j + rem.length=s.length→
 (rem.all chB=true→K (.exit 0) { nt:=59,tmps:=[(0,.str s),(3,.int .i64 (.ofNat s.length)),(9,.bool false)],locs:=[],fix:=[] } S)→
 (rem.all chB=false→K .ret { nt:=59,tmps:=[(2,.bool false)],locs:=[],fix:=[] } S)→
 aB (iter (evalCode Tryz.cfg R k 80 (Tryz.cfg.fc 80) NN) f { nt:=59,tmps:=[(0,.str s),(3,.int .i64 (.ofNat j))],locs:=[],fix:=[] } S) K
 | [],j,f + 1,hf,hr,hj,hK,_=>by
  have hjl:j=s.length:=by simpa using hj
  subst hjl
  refine aB.round (nt:=59) (fx:=[]) ?_
  refine ah.no (O4 (by omega)) ?_
  exact hK rfl
 | b::rem,j,f + 1,hf,hr,hj,hK,hN=>by
  have hb:s[j]?=some b:=by have:=hr 0;simpa using this.symm
  have hjl:j < s.length:=(aGs hb).1
  have hno:chC (.ofNat b.toNat)=false→K .ret { nt:=59,tmps:=[(2,.bool false)],locs:=[],fix:=[] } S:=fun h=>hN (by simp only [List.all_cons,chB,h,Bool.false_and])
  have jU:chC (.ofNat b.toNat)=true→aB (iter (evalCode Tryz.cfg R k 80 (Tryz.cfg.fc 80) NN) f { nt:=59,tmps:=[(0,.str s),(3,.int .i64 (.ofNat (j + 1)))],locs:=[],fix:=[] } S) K:=fun h=>
   GA R k s hs S K rem (j + 1) f (by simp only [aLc] at hf;omega) (fun i=>by have:=hr (i + 1);simp only [List.getElem?_cons_succ] at this;rw [this];congr 1;omega) (by simp only [aLc] at hj;omega) (fun h2=>hK (by simp only [List.all_cons,chB,h,h2,Bool.and_self])) (fun h2=>hN (by simp only [List.all_cons,chB,h,h2,Bool.and_false]))
  clear hK hN
  refine aB.round (nt:=59) (fx:=[]) ?_
  refine ah.yes (O3 hjl) ?_
  refine ab.mk _ (O2 hb) ?_
  repeat' (refine ah.mk (fun _=>?_) (fun _=>?_))
  all_goals first
   | exact hno (by simp only [chC, *];rfl)
   | (refine ab.mk _ (az (T:=3) (j:=j) (by omega)) ?_;exact jU (by simp only [chC, *];rfl))
theorem ES (n:Nat) (s:List UInt8) (hs:s.length≤9223372036854775807) (hn:s.length < n):frame Tryz.cfg (RN n) n 80 [.str s] St.empty=some (.bool (mJ s),St.empty):=by
 refine aL Tryz.cfg _ (fn:=Tryz.f80) rfl rfl ?_
 refine GA _ n s hs _ _ s 0 n hn (fun i=>by rw [Nat.zero_add]) (by rw [Nat.zero_add]) (fun h=>?_) (fun h=>?_)
 ·repeat' (refine ah.mk (fun _=>?_) (fun _=>?_))
  all_goals exact rfB (by simp_all [mJ])
 ·exact rfB (by simp [mJ,h])
theorem qy (n:Nat) (s:List UInt8) (S:St) (hs:s.length≤9223372036854775807) (hn:s.length < n):RN (n + 1) (.f 80) [.str s] S=some (.bool (mJ s),S):=jS (ES n s hs hn) rfl rfl rfl rfl rfl
noncomputable def l8 (x:Tm):Bool:=bif iEq x.k 3 || iEq x.k 8 then mJ x.s else decide (x.s=[])
noncomputable def kU (x:Tm):Bool:=bif iEq x.k 2 then !iLt x.n 0 && !iLt 1048576 x.n else bif iEq x.k 8 then !iLt x.n 0 && iLt x.n 12 else iEq x.n 0
noncomputable def lr (x:Tm):Bool:=bif iEq x.k 1 then iEq (.ofNat (aG (x.ls.map enc))) 1 else bif iEq x.k 3 then !iLt 4 (.ofNat (aG (x.ls.map enc))) else iEq (.ofNat (aG (x.ls.map enc))) 0
noncomputable def bh (x:Tm):Bool:=(!iLt (cF x.k) 0 && iEq (.ofNat (aG (ae x.ts))) (cF x.k)) && x.ls.all eA && (l8 x && kU x && lr x)
noncomputable def Qu:Code:=jr Tryz.f87 0
theorem GB (n k:Nat) (x:Tm) (hs:x.ls.length≤9223372036854775807) (S:St) (K:Ex→Env→St→Prop) :
 ∀(rem:List Lv) (j f:Nat),rem.length < f→(∀i,rem[i]?=x.ls[j + i]?)→j + rem.length=x.ls.length→
 (rem.all eA=true→K (.exit 0) { nt:=91,tmps:=[(1,.ptr (.loc 1) 0),(3,.int .i64 (.ofNat x.ls.length)),(24,.bool false)],locs:=[(1,aC x)],fix:=[] } S)→
 (rem.all eA=false→K .ret { nt:=91,tmps:=[(2,.bool false)],locs:=[(1,aC x)],fix:=[] } S)→
 aB (iter (evalCode Tryz.cfg (RN (n + 6)) k 87 (Tryz.cfg.fc 87) Qu) f { nt:=91,tmps:=[(1,.ptr (.loc 1) 0),(3,.int .i64 (.ofNat j))],locs:=[(1,aC x)],fix:=[] } S) K
 | [],j,f + 1,hf,hr,hj,hK,_=>by
  have hjl:j=x.ls.length:=by simpa using hj
  subst hjl
  refine aB.round (nt:=91) (fx:=[]) ?_
  refine ah.no (Bf (by omega)) ?_
  exact hK rfl
 | b::rem,j,f + 1,hf,hr,hj,hK,hN=>by
  have hb:x.ls[j]?=some b:=by have:=hr 0;simpa using this.symm
  have hjl:j < x.ls.length:=(aGs hb).1
  refine aB.round (nt:=91) (fx:=[]) ?_
  refine ah.yes (Be hjl) ?_
  refine ab.mk _ (sO hb) ?_
  refine ag.mkB (OY n b _) (fun h=>?_) (fun h=>?_)
  ·refine ab.mk _ (az (T:=3) (j:=j) (by omega)) ?_
   exact GB n k x hs S K rem (j + 1) f (by simp only [aLc] at hf;omega) (fun i=>by have:=hr (i + 1);simp only [List.getElem?_cons_succ] at this;rw [this];congr 1;omega) (by simp only [aLc] at hj;omega) (fun h2=>hK (by simp only [List.all_cons,h,h2,Bool.and_self])) (fun h2=>hN (by simp only [List.all_cons,h,h2,Bool.and_false]))
  ·exact hN (by simp only [List.all_cons,h,Bool.false_and])
def SmN (x:Tm):Prop:=x.ls.length≤9223372036854775807∧x.s.length≤9223372036854775807
theorem eG {a b c:Int} (h:iEq a b=true) (hne:iEq b c=false):iEq a c=false:=by
 rw [bp,decide_eq_true_eq] at h
 subst h
 exact hne
theorem ah.sym {b:Bool} {K:V→Prop} (h:K (.bool b)):ah b K:=⟨(fun e=>by rw [e] at h;exact h),(fun e=>by rw [e] at h;exact h)⟩
noncomputable def Dj:Code:=((Tryz.f87.body).bind zu).getD .skip
theorem Mf (n k:Nat) (x:Tm) (hs:SmN x) (hn:wt x < n + 6) (hk:(!iLt (cF x.k) 0 && iEq (.ofNat (aG (ae x.ts))) (cF x.k))=true) (cg:x.ls.all eA=true) (h1:iEq x.k 1=true) :
 dZ Tryz.cfg (RN (n + 6)) (Tryz.cfg.fc 87) k 122 91 [] Dj { nt:=91,tmps:=[(1,.ptr (.loc 1) 0),(3,.int .i64 (.ofNat x.ls.length)),(24,.bool false)],locs:=[(1,aC x)],fix:=[] } St.empty (fun e A S=>match e with | .exit _=>False | _=>finish Tryz.cfg Tryz.f87 A S=some (.bool (bh x),St.empty)):=by
 have h2:iEq x.k 2=false:=eG h1 rfl
 have h3:iEq x.k 3=false:=eG h1 rfl
 have h8:iEq x.k 8=false:=eG h1 rfl
 have hw:=cr x
 have e:bh x=(l8 x && kU x && lr x):=by unfold bh;rw [hk,cg];rfl
 rw [e]
 refine ab.mkB jJ (fun _=>?_) (fun _=>?_)
 all_goals refine ah.mk (fun _=>?_) (fun _=>?_)
 all_goals refine ah.sym ?_
 all_goals refine ah.yes h1 ?_
 all_goals repeat' first
  | refine ah.mk (fun _=>?_) (fun _=>?_)
  | refine ag.mkB (qy (n + 5) x.s _ hs.2 (by omega)) (fun _=>?_) (fun _=>?_)
 all_goals exact rfB (by simp_all only [l8,kU,lr,Bool.not_false,Bool.not_true,Bool.or_false,Bool.false_or,Bool.true_or,Bool.or_true,cond_true,cond_false,Bool.and_true,Bool.true_and,Bool.and_false,Bool.false_and,Bool.not_eq_true',Bool.not_eq_false'])
theorem Mg (n k:Nat) (x:Tm) (hs:SmN x) (hn:wt x < n + 6) (hk:(!iLt (cF x.k) 0 && iEq (.ofNat (aG (ae x.ts))) (cF x.k))=true) (cg:x.ls.all eA=true) (h1:iEq x.k 1=false) (h2:iEq x.k 2=true) :
 dZ Tryz.cfg (RN (n + 6)) (Tryz.cfg.fc 87) k 122 91 [] Dj { nt:=91,tmps:=[(1,.ptr (.loc 1) 0),(3,.int .i64 (.ofNat x.ls.length)),(24,.bool false)],locs:=[(1,aC x)],fix:=[] } St.empty (fun e A S=>match e with | .exit _=>False | _=>finish Tryz.cfg Tryz.f87 A S=some (.bool (bh x),St.empty)):=by
 have h3:iEq x.k 3=false:=eG h2 rfl
 have h8:iEq x.k 8=false:=eG h2 rfl
 have hw:=cr x
 have e:bh x=(l8 x && kU x && lr x):=by unfold bh;rw [hk,cg];rfl
 rw [e]
 refine ab.mkB jJ (fun _=>?_) (fun _=>?_)
 all_goals refine ah.sym ?_
 all_goals refine ah.mk (fun _=>?_) (fun _=>?_)
 all_goals refine ah.no h1 ?_
 all_goals refine ah.yes h2 ?_
 all_goals repeat' first
  | refine ah.mk (fun _=>?_) (fun _=>?_)
  | refine ag.mkB (qy (n + 5) x.s _ hs.2 (by omega)) (fun _=>?_) (fun _=>?_)
 all_goals exact rfB (by simp_all only [l8,kU,lr,Bool.not_false,Bool.not_true,Bool.or_false,Bool.false_or,Bool.true_or,Bool.or_true,cond_true,cond_false,Bool.and_true,Bool.true_and,Bool.and_false,Bool.false_and,Bool.not_eq_true',Bool.not_eq_false'])
theorem Mh (n k:Nat) (x:Tm) (hs:SmN x) (hn:wt x < n + 6) (hk:(!iLt (cF x.k) 0 && iEq (.ofNat (aG (ae x.ts))) (cF x.k))=true) (cg:x.ls.all eA=true) (h1:iEq x.k 1=false) (h2:iEq x.k 2=false) (h3:iEq x.k 3=true) :
 dZ Tryz.cfg (RN (n + 6)) (Tryz.cfg.fc 87) k 122 91 [] Dj { nt:=91,tmps:=[(1,.ptr (.loc 1) 0),(3,.int .i64 (.ofNat x.ls.length)),(24,.bool false)],locs:=[(1,aC x)],fix:=[] } St.empty (fun e A S=>match e with | .exit _=>False | _=>finish Tryz.cfg Tryz.f87 A S=some (.bool (bh x),St.empty)):=by
 have h8:iEq x.k 8=false:=eG h3 rfl
 have hw:=cr x
 have e:bh x=(l8 x && kU x && lr x):=by unfold bh;rw [hk,cg];rfl
 rw [e]
 refine ab.mk _ jJ ?_
 all_goals refine ah.mk (fun _=>?_) (fun _=>?_)
 all_goals refine ah.sym ?_
 all_goals refine ah.no h1 ?_
 all_goals refine ah.no h2 ?_
 all_goals refine ah.yes h3 ?_
 all_goals repeat' first
  | refine ah.mk (fun _=>?_) (fun _=>?_)
  | refine ag.mkB (qy (n + 5) x.s _ hs.2 (by omega)) (fun _=>?_) (fun _=>?_)
 all_goals exact rfB (by simp_all only [l8,kU,lr,Bool.not_false,Bool.not_true,Bool.or_false,Bool.false_or,Bool.true_or,Bool.or_true,cond_true,cond_false,Bool.and_true,Bool.true_and,Bool.and_false,Bool.false_and,Bool.not_eq_true',Bool.not_eq_false'])
theorem Mi (n k:Nat) (x:Tm) (hs:SmN x) (hn:wt x < n + 6) (hk:(!iLt (cF x.k) 0 && iEq (.ofNat (aG (ae x.ts))) (cF x.k))=true) (cg:x.ls.all eA=true) (h1:iEq x.k 1=false) (h2:iEq x.k 2=false) (h3:iEq x.k 3=false) (h8:iEq x.k 8=true) :
 dZ Tryz.cfg (RN (n + 6)) (Tryz.cfg.fc 87) k 122 91 [] Dj { nt:=91,tmps:=[(1,.ptr (.loc 1) 0),(3,.int .i64 (.ofNat x.ls.length)),(24,.bool false)],locs:=[(1,aC x)],fix:=[] } St.empty (fun e A S=>match e with | .exit _=>False | _=>finish Tryz.cfg Tryz.f87 A S=some (.bool (bh x),St.empty)):=by
 have hw:=cr x
 have e:bh x=(l8 x && kU x && lr x):=by unfold bh;rw [hk,cg];rfl
 rw [e]
 refine ab.mk _ jJ ?_
 all_goals refine ah.sym ?_
 all_goals refine ah.mk (fun _=>?_) (fun _=>?_)
 all_goals refine ah.no h1 ?_
 all_goals refine ah.no h2 ?_
 all_goals refine ah.no h3 ?_
 all_goals refine ah.yes h8 ?_
 all_goals repeat' first
  | refine ah.mk (fun _=>?_) (fun _=>?_)
  | refine ag.mkB (qy (n + 5) x.s _ hs.2 (by omega)) (fun _=>?_) (fun _=>?_)
 all_goals exact rfB (by simp_all only [l8,kU,lr,Bool.not_false,Bool.not_true,Bool.or_false,Bool.false_or,Bool.true_or,Bool.or_true,cond_true,cond_false,Bool.and_true,Bool.true_and,Bool.and_false,Bool.false_and,Bool.not_eq_true',Bool.not_eq_false'])
theorem Mj (n k:Nat) (x:Tm) (hs:SmN x) (hn:wt x < n + 6) (hk:(!iLt (cF x.k) 0 && iEq (.ofNat (aG (ae x.ts))) (cF x.k))=true) (cg:x.ls.all eA=true) (h1:iEq x.k 1=false) (h2:iEq x.k 2=false) (h3:iEq x.k 3=false) (h8:iEq x.k 8=false) :
 dZ Tryz.cfg (RN (n + 6)) (Tryz.cfg.fc 87) k 122 91 [] Dj { nt:=91,tmps:=[(1,.ptr (.loc 1) 0),(3,.int .i64 (.ofNat x.ls.length)),(24,.bool false)],locs:=[(1,aC x)],fix:=[] } St.empty (fun e A S=>match e with | .exit _=>False | _=>finish Tryz.cfg Tryz.f87 A S=some (.bool (bh x),St.empty)):=by
 have hw:=cr x
 have e:bh x=(l8 x && kU x && lr x):=by unfold bh;rw [hk,cg];rfl
 rw [e]
 refine ab.mkB jJ (fun _=>?_) (fun _=>?_)
 all_goals refine ah.mk (fun _=>?_) (fun _=>?_)
 all_goals refine ah.mk (fun _=>?_) (fun _=>?_)
 all_goals refine ah.no h1 ?_
 all_goals refine ah.no h2 ?_
 all_goals refine ah.no h3 ?_
 all_goals refine ah.no h8 ?_
 all_goals repeat' first
  | refine ah.mk (fun _=>?_) (fun _=>?_)
  | refine ag.mkB (qy (n + 5) x.s _ hs.2 (by omega)) (fun _=>?_) (fun _=>?_)
 all_goals exact rfB (by simp_all only [l8,kU,lr,Bool.not_false,Bool.not_true,Bool.or_false,Bool.false_or,Bool.true_or,Bool.or_true,cond_true,cond_false,Bool.and_true,Bool.true_and,Bool.and_false,Bool.false_and,Bool.not_eq_true',Bool.not_eq_false'])
theorem EU (n:Nat) (x:Tm) (hs:SmN x) (hn:wt x < n + 6):frame Tryz.cfg (RN (n + 6)) (n + 6) 87 [aH x] St.empty=some (.bool (bh x),St.empty):=by
 have hw:=cr x
 refine aL Tryz.cfg _ (fn:=Tryz.f87) rfl rfl ?_
 refine ag.mk _ _ (Gz (n + 5) x.k _) ?_
 refine ah.mk (fun hk=>?_) (fun hk=>?_)
 ·exact rfB (by simp [bh,hk])
 refine ag.mk _ _ (Gz (n + 5) x.k _) ?_
 refine ah.mk (fun hk2=>?_) (fun hk2=>?_)
 ·exact rfB (by simp only [Bool.not_eq_true'] at hk2;simp only [bh,hk,hk2,Bool.and_false,Bool.false_and])
 have hkk:(!iLt (cF x.k) 0 && iEq (.ofNat (aG (ae x.ts))) (cF x.k))=true:=by simp only [Bool.not_eq_false'] at hk2;rw [hk,hk2];rfl
 refine GB n (n + 6) x hs.1 _ _ x.ls 0 (n + 6) (by omega) (fun i=>by rw [Nat.zero_add]) (by rw [Nat.zero_add]) (fun cg=>?_) (fun cg=>?_)
 ·cases h1:iEq x.k 1 with
  | true=>exact Mf n (n + 6) x hs hn hkk cg h1
  | false=>
  cases h2:iEq x.k 2 with
  | true=>exact Mg n (n + 6) x hs hn hkk cg h1 h2
  | false=>
  cases h3:iEq x.k 3 with
  | true=>exact Mh n (n + 6) x hs hn hkk cg h1 h2 h3
  | false=>
  cases h8:iEq x.k 8 with
  | true=>exact Mi n (n + 6) x hs hn hkk cg h1 h2 h3 h8
  | false=>exact Mj n (n + 6) x hs hn hkk cg h1 h2 h3 h8
 ·exact rfB (by simp only [bh,cg,Bool.and_false,Bool.false_and])
theorem Mk (n:Nat) (x:Tm) (S:St) (hs:SmN x) (hn:wt x < n + 6):RN (n + 7) (.f 87) [aH x] S=some (.bool (bh x),S):=bG (EU n x hs hn) (by simp only [br,aq]) rfl rfl rfl rfl rfl
mutual
def Sm:Tm→Prop
 | .mk _ _ s _ _ _ _ ls ts=>(ls.length≤9223372036854775807∧s.length≤9223372036854775807)∧Sms ts
def Sms:List Tm→Prop
 | []=>True
 | t::ts=>Sm t∧Sms ts
end
theorem Ml (ts:List Tm):Sms ts↔∀y∈ts,Sm y:=by
 induction ts with
 | nil=>rw [Sms];simp
 | cons t ts ih=>rw [Sms,ih];simp
theorem gR (x:Tm):Sm x↔SmN x∧∀y∈x.ts,Sm y:=by cases x;rw [Sm,Ml];rfl
noncomputable def Qv:Code:=jr Tryz.f39 0
theorem GC (n k:Nat) (x:Tm) (d:Nat) (hd:d < 1000000) (S:St) (K:Ex→Env→St→Prop)
 (dy:∀y∈x.ts,∀l,l < 1000000→RN n (.f 39) [aH y,.int .i64 (.ofNat l),.int .i64 (.ofNat d)] S=some (Di (de bh y l d),S)) :
 ∀(rem:List Tm) (j f l:Nat),rem.length < f→(∀i,rem[i]?=x.ts[j + i]?)→j + rem.length=x.ts.length→l < 1000000→j < 1000000→l + j < 1000000→
 (match dD bh rem l d with
  | some l'=>K (.exit 0) { nt:=40,tmps:=[(1,.int .i64 (.ofNat l')),(2,.int .i64 (.ofNat (d + 1))),(3,.ptr (.loc 3) 0),(7,.int .i64 (.ofNat x.ts.length)),(25,.bool false)],locs:=[(3,aC x)],fix:=[] } S
  | none=>K .ret { nt:=40,tmps:=[(6,.int .i64 (-1))],locs:=[(3,aC x)],fix:=[] } S)→
 aB (iter (evalCode Tryz.cfg (RN n) k 39 (Tryz.cfg.fc 39) Qv) f { nt:=40,tmps:=[(1,.int .i64 (.ofNat l)),(2,.int .i64 (.ofNat (d + 1))),(3,.ptr (.loc 3) 0),(7,.int .i64 (.ofNat j))],locs:=[(3,aC x)],fix:=[] } S) K
 | [],j,f + 1,l,hf,hr,hj,hl,_,_,hK=>by
  have hjl:j=x.ts.length:=by simpa using hj
  subst hjl
  refine aB.round (nt:=40) (fx:=[]) ?_
  refine ah.no (gG (by omega)) ?_
  rw [dD] at hK
  exact hK
 | y::rem,j,f + 1,l,hf,hr,hj,hl,hj2,hlj,hK=>by
  have hb:x.ts[j]?=some y:=by have:=hr 0;simpa using this.symm
  have hjl:j < x.ts.length:=(aGs hb).1
  have hy:=dy y (aMg hb) l hl
  refine aB.round (nt:=40) (fx:=[]) ?_
  refine ah.yes (gE hjl) ?_
  refine ab.mk _ (bJ hb) ?_
  refine ab.mk _ (od (by omega)) ?_
  rw [eJ] at hK
  cases hs:de bh y l d with
  | none=>
   rw [hs] at hK hy
   refine ag.mk _ _ hy ?_
   refine ah.yes rfl ?_
   exact hK
  | some l'=>
   rw [hs] at hK hy
   have:=sP _ _ hs
   refine ag.mk _ _ hy ?_
   refine ah.no rfl ?_
   refine ab.mk _ (az (by omega)) ?_
   exact GC n k x d hd S K dy rem (j + 1) f l' (by simp only [aLc] at hf;omega) (fun i=>by have:=hr (i + 1);simp only [List.getElem?_cons_succ] at this;rw [this];congr 1;omega) (by simp only [aLc] at hj;omega) (by omega) (by omega) (by omega) hK
theorem EV (n:Nat) (x:Tm) (l d:Nat) (hl:l < 1000000) (hd:d < 1000000) (hsm:Sm x) (hn:wt x < n + 1)
 (dy:∀y∈x.ts,∀l d,l < 1000000→d < 1000000→RN (n + 7) (.f 39) [aH y,.int .i64 (.ofNat l),.int .i64 (.ofNat d)] St.empty=some (Di (de bh y l d),St.empty)) :
 frame Tryz.cfg (RN (n + 7)) (n + 7) 39 [aH x,.int .i64 (.ofNat l),.int .i64 (.ofNat d)] St.empty=some (Di (de bh x l d),St.empty):=by
 have hn2:x.ts.length < n + 7:=by have:=hV x.ts;rw [cr] at hn;omega
 refine aL Tryz.cfg _ (fn:=Tryz.f39) rfl rfl ?_
 rw [js]
 cases l with
 | zero=>refine ab.mk _ rfl ?_;refine ah.yes rfl ?_;rfl
 | succ l=>
 refine ab.mk _ (od (by omega)) ?_
 refine ah.no rfl ?_
 cases d with
 | zero=>refine ah.yes rfl ?_;rfl
 | succ d=>
 refine ah.no rfl ?_
 simp only
 refine ag.mkB (Mk n x _ ((gR x).1 hsm).1 (by omega)) (fun hq=>?_) (fun hq=>?_)
 ·rw [hq]
  refine GC (n + 7) (n + 7) x d (by omega) _ _ (fun y hy l hl=>dy y hy l d hl (by omega)) x.ts 0 (n + 7) l hn2 (fun i=>by rw [Nat.zero_add]) (by rw [Nat.zero_add]) (by omega) (by omega) (by omega) ?_
  cases hs:dD bh x.ts l d<;>rfl
 ·rw [hq]
  rfl
theorem GD:∀(n:Nat) (x:Tm) (l d:Nat) (S:St),l < 1000000→d < 1000000→Sm x→wt x < n→RN (n + 7) (.f 39) [aH x,.int .i64 (.ofNat l),.int .i64 (.ofNat d)] S=some (Di (de bh x l d),S)
 | 0,x,l,d,S,_,_,_,h=>by omega
 | n + 1,x,l,d,S,hl,hd,hsm,h=>by
  have:=EV n x l d hl hd hsm h (fun y hy l d hl hd=>GD n y l d _ hl hd (((gR x).1 hsm).2 y hy) (by have:=cz hy;omega))
  cases hs:de bh x l d with
  | none=>rw [hs] at this;exact bG this (by simp only [br,bx,aq]) rfl rfl rfl rfl rfl
  | some l'=>rw [hs] at this;exact bG this (by simp only [br,bx,aq]) rfl rfl rfl rfl rfl
noncomputable def cM (x:Tm):Bool:=(de bh x 65536 4096).isSome
theorem Ia (n:Nat) (x:Tm) (hsm:Sm x) (h:wt x < n):frame Tryz.cfg (RN (n + 7)) (n + 7) 12 [aH x] St.empty=some (.bool (cM x),St.empty):=by
 refine aL Tryz.cfg _ (fn:=Tryz.f12) rfl rfl ?_
 have:=GD n x 65536 4096 St.empty (by omega) (by omega) hsm h
 unfold cM
 cases hs:de bh x 65536 4096 with
 | none=>rw [hs] at this;refine ag.mk _ _ this ?_;refine ah.no rfl ?_;rfl
 | some l=>rw [hs] at this;refine ag.mk _ _ this ?_;refine ah.yes rfl ?_;rfl
theorem O5 (n:Nat) (x:Tm) (S:St) (hsm:Sm x) (h:wt x < n):RN (n + 8) (.f 12) [aH x] S=some (.bool (cM x),S):=bG (Ia n x hsm h) (by simp only [br,aq]) rfl rfl rfl rfl rfl
theorem Dk {a b:Int}:iEq a b=iEq b a:=by rw [bp,bp];simp only [eq_comm]
noncomputable def k2F (k:Int):Int:=bif iLt (cF k) 0 then 0 else cF k
theorem oe {C:Cfg} {R:Run} {k id:Nat} {args:List V} {S:St} {fn:Func} {c:Code} {p:V×St→Prop} (hf:C.fn id=some fn) (hc:fn.body=some c)
 (h:dZ C R (C.fc id) k id fn.ntmps [] c { nt:=fn.ntmps,tmps:=number 0 args,locs:=[],fix:=[] } S fun e A S=>match e with | .exit _=>False | _=>∃r,finish C fn A S=some r∧p r) :
 ∃r,frame C R k id args S=some r∧p r:=by
 obtain⟨e,A,S',h1,h3⟩:=cJ C R (C.fc id) c h
 unfold frame
 simp only [hf,hc,h1]
 unfold finish at h3
 cases e with
 | exit i=>exact h3.elim
 | normal=>exact h3
 | ret=>exact h3
theorem rfT {S:St} {a c:Int} {b d:Bool} (h:a=c) (h2:b=d):some (V.tuple [.int .i64 a,.bool b],S)=some (V.tuple [.int .i64 c,.bool d],S):=by rw [h,h2]
theorem EW (n:Nat) (k:Int):frame Tryz.cfg (RN n) n 166 [.int .u8 k] St.empty=some (.tuple [.int .i64 (k2F k),.bool (!iLt (cF k) 0)],St.empty):=by
 refine aL Tryz.cfg _ (fn:=Tryz.f166) rfl rfl ?_
 cases h7:iEq k 7 with
 | true=>
  have h1:iEq k 1=false:=eG h7 rfl
  have h2:iEq k 2=false:=eG h7 rfl
  have h3:iEq k 3=false:=eG h7 rfl
  have h4:iEq k 4=false:=eG h7 rfl
  have h5:iEq k 5=false:=eG h7 rfl
  have h6:iEq k 6=false:=eG h7 rfl
  have e:cF k=3:=by simp [cF, *]
  refine ah.yes h7 ?_
  refine ab.mk _ rfl ?_
  refine ab.mk _ rfl ?_
  refine ab.mk _ rfl ?_
  exact rfT (by simp only [k2F,e];rfl) (by rw [e];rfl)
 | false=>
 refine ah.no h7 ?_
 cases EX:(iEq k 4 || iEq k 5 || iEq k 6) with
 | true=>
  have Dm:(iEq k 1 || iEq k 2 || iEq k 3)=false:=by
   simp only [Bool.or_eq_true] at EX
   rcases EX with (h | h) | h<;>simp [eG h (c:=1) rfl,eG h (c:=2) rfl,eG h (c:=3) rfl]
  have e:cF k=2:=by unfold cF;rw [Dm,EX];rfl
  repeat' (refine ah.mk (fun _=>?_) (fun _=>?_))
  all_goals first
   | (refine ab.mk _ rfl ?_;refine ab.mk _ rfl ?_;exact rfT (by simp only [k2F,e];rfl) (by rw [e];rfl))
   | (exfalso;simp_all)
 | false=>
  simp only [Bool.or_eq_false_iff] at EX
  refine ah.no EX.1.1 ?_
  refine ah.no EX.1.2 ?_
  refine ah.no EX.2 ?_
  refine ah.mk (fun h8=>?_) (fun h8=>?_)
  ·have h1:iEq k 1=false:=eG h8 rfl
   have h2:iEq k 2=false:=eG h8 rfl
   have h3:iEq k 3=false:=eG h8 rfl
   have e:cF k=1:=by simp [cF, *]
   refine ab.mk _ rfl ?_
   exact rfT (by simp only [k2F,e];rfl) (by rw [e];rfl)
  ·repeat' (refine ah.mk (fun _=>?_) (fun _=>?_))
   all_goals first
    | (have e:cF k=0:=by simp [cF, *]
       exact rfT (by simp only [k2F,e];rfl) (by rw [e];rfl))
    | (have e:cF k = -1:=by simp [cF, *]
       exact rfT (by simp only [k2F,e];rfl) (by rw [e];rfl))
theorem Mm (n:Nat) (k:Int) (S:St):RN (n + 1) (.f 166) [.int .u8 k] S=some (.tuple [.int .i64 (k2F k),.bool (!iLt (cF k) 0)],S):=jS (EW n k) rfl rfl rfl rfl rfl
theorem xj {α β:Type} (f:α→β) (l:List α):aG (bg f l)=l.length:=by rw [bD,an,aLm]
theorem JR {s:List UInt8} {j:Nat} {b:UInt8} (h:s[j]?=some b):indexAddr Tryz.cfg 179 (.list 1 .no 0 (bg fY s)) (.int .i64 (.ofNat j))=some (.imm 0 [.int .u8 (.ofNat b.toNat)]):=by
 have hj:j < s.length:=(aGs h).1
 show (match below (.int .i64 (.ofNat j)) (aG (bg fY s)) with
  | some i=>match nth (bg fY s) i with
   | some r=>bif Nat.beq 1 1 then some (V.imm 0 r.cells) else none
   | none=>none
  | none=>none)=_
 rw [xj,pP hj]
 simp only
 rw [bR,bD,List.getElem?_map,h]
 rfl
noncomputable def NO:Code:=jr Tryz.f110 0
theorem GF (R:Run) (k:Nat) (s:List UInt8) (hs:s.length≤9223372036854775807) (S:St) (K:Ex→Env→St→Prop) :
 ∀(rem:List UInt8) (j f:Nat),rem.length < f→(∀i,rem[i]?=s[j + i]?)→j + rem.length=s.length→
 (rem.all chB=true→K (.exit 0) { nt:=46,tmps:=[(0,.str s),(6,.list 1 .no 0 (bg fY s)),(7,.int .i64 (.ofNat (aG (bg fY s)))),(8,.int .i64 (.ofNat s.length)),(9,.bool false)],locs:=[],fix:=[] } S)→
 (rem.all chB=false→K .ret { nt:=46,tmps:=[(2,.bool false)],locs:=[],fix:=[] } S)→
 aB (iter (evalCode Tryz.cfg R k 110 (Tryz.cfg.fc 110) NO) f { nt:=46,tmps:=[(0,.str s),(6,.list 1 .no 0 (bg fY s)),(7,.int .i64 (.ofNat (aG (bg fY s)))),(8,.int .i64 (.ofNat j))],locs:=[],fix:=[] } S) K
 | [],j,f + 1,hf,hr,hj,hK,_=>by
  have hjl:j=s.length:=by simpa using hj
  subst hjl
  refine aB.round (nt:=46) (fx:=[]) ?_
  refine ah.no (by rw [xj];exact fJ (by omega)) ?_
  exact hK rfl
 | b::rem,j,f + 1,hf,hr,hj,hK,hN=>by
  have hb:s[j]?=some b:=by have:=hr 0;simpa using this.symm
  have hjl:j < s.length:=(aGs hb).1
  have hno:chC (.ofNat b.toNat)=false→K .ret { nt:=46,tmps:=[(2,.bool false)],locs:=[],fix:=[] } S:=fun h=>hN (by simp only [List.all_cons,chB,h,Bool.false_and])
  have jU:chC (.ofNat b.toNat)=true→aB (iter (evalCode Tryz.cfg R k 110 (Tryz.cfg.fc 110) NO) f { nt:=46,tmps:=[(0,.str s),(6,.list 1 .no 0 (bg fY s)),(7,.int .i64 (.ofNat (aG (bg fY s)))),(8,.int .i64 (.ofNat (j + 1)))],locs:=[],fix:=[] } S) K:=fun h=>
   GF R k s hs S K rem (j + 1) f (by simp only [aLc] at hf;omega) (fun i=>by have:=hr (i + 1);simp only [List.getElem?_cons_succ] at this;rw [this];congr 1;omega) (by simp only [aLc] at hj;omega) (fun h2=>hK (by simp only [List.all_cons,chB,h,h2,Bool.and_self])) (fun h2=>hN (by simp only [List.all_cons,chB,h,h2,Bool.and_false]))
  clear hK hN
  refine aB.round (nt:=46) (fx:=[]) ?_
  refine ah.yes (by rw [xj];exact dC hjl) ?_
  refine ab.mk _ (JR hb) ?_
  repeat' (refine ah.mk (fun _=>?_) (fun _=>?_))
  all_goals first
   | exact hno (by simp only [chC, *];rfl)
   | (refine ab.mk _ (az (T:=3) (j:=j) (by omega)) ?_;exact jU (by simp only [chC, *];rfl))
theorem EY (n:Nat) (s:List UInt8) (hs:s.length≤9223372036854775807) (hn:s.length < n):frame Tryz.cfg (RN n) n 110 [.str s] St.empty=some (.bool (mJ s),St.empty):=by
 refine aL Tryz.cfg _ (fn:=Tryz.f110) rfl rfl ?_
 refine GF _ n s hs _ _ s 0 n hn (fun i=>by rw [Nat.zero_add]) (by rw [Nat.zero_add]) (fun h=>?_) (fun h=>?_)
 ·refine ab.mkB re (fun h2=>?_) (fun h2=>?_)
  ·have e:iLt (.ofNat (aG s)) 1=false:=by
    cases s with
    | nil=>simp at h2
    | cons c s=>show Nat.blt (aG (c::s)) 1=false;exact fJ (by rw [an,aLc];omega)
   repeat' (refine ah.mk (fun _=>?_) (fun _=>?_))
   all_goals exact rfB (by simp_all [mJ])
  ·have e:s=[]:=by simpa using h2
   subst e
   exact rfB rfl
 ·exact rfB (by simp [mJ,h])
theorem qz (n:Nat) (s:List UInt8) (S:St) (hs:s.length≤9223372036854775807) (hn:s.length < n):RN (n + 1) (.f 110) [.str s] S=some (.bool (mJ s),S):=jS (EY n s hs hn) rfl rfl rfl rfl rfl
theorem Mn (n:Nat) (l:Lv) (S:St):RN (n + 9) (.f 167) [enc l] S=some (.bool (!eA l),S):=by
 have:frame Tryz.cfg (RN (n + 8)) (n + 8) 167 [enc l] St.empty=some (.bool (!eA l),St.empty):=by
  refine aL Tryz.cfg _ (fn:=Tryz.f167) rfl rfl ?_
  refine ag.mkB (OS n l _) (fun h=>?_) (fun h=>?_)
  ·rw [h];rfl
  ·rw [h];rfl
 exact jS this rfl rfl rfl rfl rfl
noncomputable def Qw:Code:=jr Tryz.f147 0
theorem Bg (n k:Nat) (ls:List Lv) (a:Bool) (tk:Tok) (hs:ls.length≤9223372036854775807) (S:St) (K:Ex→Env→St→Prop) :
 ∀(rem:List Lv) (j f:Nat) (o:Option V),rem.length < f→(∀i,rem[i]?=ls[j + i]?)→j + rem.length=ls.length→
 (rem.all eA=true→K (.exit 0) { nt:=19,tmps:=[(0,.list (au a ls) tk 0 (ls.map enc)),(1,.fn 167 0 [] []),(7,.int .i64 (.ofNat (aG (ls.map enc)))),(8,.int .i64 (.ofNat ls.length)),(9,.bool false)],locs:=[],fix:=[] } S)→
 (rem.all eA=false→∀i:Nat,K .ret { nt:=19,tmps:=[(4,.int .i64 (.ofNat i))],locs:=[],fix:=[] } S)→
 aB (iter (evalCode Tryz.cfg (RN (n + 9)) k 147 (Tryz.cfg.fc 147) Qw) f { nt:=19,tmps:=[(0,.list (au a ls) tk 0 (ls.map enc)),(1,.fn 167 0 [] []),(7,.int .i64 (.ofNat (aG (ls.map enc)))),(8,.int .i64 (.ofNat j))],locs:=[],fix:=[] } S) K
 | [],j,f + 1,o,hf,hr,hj,hK,_=>by
  have hjl:j=ls.length:=by simpa using hj
  subst hjl
  refine aB.round (nt:=19) (fx:=[]) ?_
  refine ah.no (Bf (by omega)) ?_
  exact hK rfl
 | b::rem,j,f + 1,o,hf,hr,hj,hK,hN=>by
  have hb:ls[j]?=some b:=by have:=hr 0;simpa using this.symm
  have hjl:j < ls.length:=(aGs hb).1
  refine aB.round (nt:=19) (fx:=[]) ?_
  refine ah.yes (Be hjl) ?_
  refine ab.mk _ (sO hb) ?_
  refine ag.mkB (Mn n b _) (fun h=>?_) (fun h=>?_)
  ·exact hN (by simp only [Bool.not_eq_true'] at h;simp only [List.all_cons,h,Bool.false_and]) j
  ·simp only [Bool.not_eq_false'] at h
   refine ab.mk _ (az (T:=3) (j:=j) (by omega)) ?_
   exact Bg n k ls a tk hs S K rem (j + 1) f none (by simp only [aLc] at hf;omega) (fun i=>by have:=hr (i + 1);simp only [List.getElem?_cons_succ] at this;rw [this];congr 1;omega) (by simp only [aLc] at hj;omega) (fun h2=>hK (by simp only [List.all_cons,h,h2,Bool.and_self])) (fun h2=>hN (by simp only [List.all_cons,h,h2,Bool.and_false]))
theorem Mo (n:Nat) (ls:List Lv) (a b:Bool) (hs:ls.length≤9223372036854775807) (hn:ls.length < n + 9) (S:St) :
 RN (n + 11) (.f 103) [.list (au a ls) (av b) 0 (ls.map enc),.fn 167 0 [] []] S=some (.bool (!ls.all eA),S):=by
 have uc:∃i:Nat,RN (n + 10) (.f 147) [.list (au a ls) (av b) 0 (ls.map enc),.fn 167 0 [] []] St.empty=some (.int .i64 (bif ls.all eA then -1 else .ofNat i),St.empty):=by
  have key:∃i:Nat,frame Tryz.cfg (RN (n + 9)) (n + 9) 147 [.list (au a ls) (av b) 0 (ls.map enc),.fn 167 0 [] []] St.empty=some (.int .i64 (bif ls.all eA then -1 else .ofNat i),St.empty):=by
   cases cg:ls.all eA with
   | true=>
    refine⟨0,?_⟩
    refine aL Tryz.cfg _ (fn:=Tryz.f147) rfl rfl ?_
    refine Bg n _ ls a (av b) hs _ _ ls 0 (n + 9) none hn (fun i=>by rw [Nat.zero_add]) (by rw [Nat.zero_add]) (fun h=>?_) (fun h=>?_)
    ·rfl
    ·rw [cg] at h;cases h
   | false=>
    obtain⟨r,h,i,rfl⟩:=oe (C:=Tryz.cfg) (R:=RN (n + 9)) (k:=n + 9) (id:=147) (args:=[.list (au a ls) (av b) 0 (ls.map enc),.fn 167 0 [] []]) (S:=St.empty) (fn:=Tryz.f147) (p:=fun r=>∃i:Nat,r=(.int .i64 (.ofNat i),St.empty)) rfl rfl (by
     refine Bg n _ ls a (av b) hs _ _ ls 0 (n + 9) none hn (fun i=>by rw [Nat.zero_add]) (by rw [Nat.zero_add]) (fun h=>?_) (fun h i=>?_)
     ·rw [cg] at h;cases h
     ·exact⟨_,rfl,i,rfl⟩)
    exact⟨i,h⟩
  obtain⟨i,key⟩:=key
  exact⟨i,bG key (by simp only [dp];rfl) rfl rfl rfl rfl rfl⟩
 obtain⟨i,uc⟩:=uc
 have:frame Tryz.cfg (RN (n + 10)) (n + 10) 103 [.list (au a ls) (av b) 0 (ls.map enc),.fn 167 0 [] []] St.empty=some (.bool (!ls.all eA),St.empty):=by
  refine aL Tryz.cfg _ (fn:=Tryz.f103) rfl rfl ?_
  cases cg:ls.all eA with
  | true=>rw [cg] at uc;refine ag.mk _ _ uc ?_;refine ah.no rfl ?_;rfl
  | false=>rw [cg] at uc;refine ag.mk _ _ uc ?_;refine ah.yes rfl ?_;rfl
 exact bG this (by simp only [dp];rfl) rfl rfl rfl rfl rfl
noncomputable def NP:Nat→Code→Code
 | 0,c=>c
 | n + 1,.seq _ b=>NP n b
 | _ + 1,c=>c
noncomputable def Dn:Code:=NP 3 (Tryz.f136.body.getD .skip)
theorem Mp (n k:Nat) (x:Tm) (hs:SmN x) (hn:wt x < n + 9) (hk:(!iLt (cF x.k) 0 && iEq (.ofNat (aG (ae x.ts))) (cF x.k))=true) (cg:x.ls.all eA=true) (h1:iEq x.k 1=true) :
 dZ Tryz.cfg (RN (n + 11)) (Tryz.cfg.fc 136) k 115 85 [] Dn { nt:=85,tmps:=[(1,.ptr (.loc 1) 0),(27,.bool false)],locs:=[(1,aC x)],fix:=[] } St.empty (fun e A S=>match e with | .exit _=>False | _=>finish Tryz.cfg Tryz.f136 A S=some (.bool (bh x),St.empty)):=by
 have h2:iEq x.k 2=false:=eG h1 rfl
 have h3:iEq x.k 3=false:=eG h1 rfl
 have h8:iEq x.k 8=false:=eG h1 rfl
 have hw:=cr x
 have e:bh x=(l8 x && kU x && lr x):=by unfold bh;rw [hk,cg];rfl
 rw [e]
 refine ab.mkB jJ (fun _=>?_) (fun _=>?_)
 all_goals refine ah.mk (fun _=>?_) (fun _=>?_)
 all_goals refine ah.sym ?_
 all_goals refine ah.yes h1 ?_
 all_goals repeat' first
  | refine ah.mk (fun _=>?_) (fun _=>?_)
  | refine ag.mkB (qz (n + 10) x.s _ hs.2 (by omega)) (fun _=>?_) (fun _=>?_)
 all_goals exact rfB (by simp_all only [l8,kU,lr,Bool.not_false,Bool.not_true,Bool.or_false,Bool.false_or,Bool.true_or,Bool.or_true,cond_true,cond_false,Bool.and_true,Bool.true_and,Bool.and_false,Bool.false_and,Bool.not_eq_true',Bool.not_eq_false'])
theorem Mq (n k:Nat) (x:Tm) (hs:SmN x) (hn:wt x < n + 9) (hk:(!iLt (cF x.k) 0 && iEq (.ofNat (aG (ae x.ts))) (cF x.k))=true) (cg:x.ls.all eA=true) (h1:iEq x.k 1=false) (h2:iEq x.k 2=true) :
 dZ Tryz.cfg (RN (n + 11)) (Tryz.cfg.fc 136) k 115 85 [] Dn { nt:=85,tmps:=[(1,.ptr (.loc 1) 0),(27,.bool false)],locs:=[(1,aC x)],fix:=[] } St.empty (fun e A S=>match e with | .exit _=>False | _=>finish Tryz.cfg Tryz.f136 A S=some (.bool (bh x),St.empty)):=by
 have h3:iEq x.k 3=false:=eG h2 rfl
 have h8:iEq x.k 8=false:=eG h2 rfl
 have hw:=cr x
 have e:bh x=(l8 x && kU x && lr x):=by unfold bh;rw [hk,cg];rfl
 rw [e]
 refine ab.mkB jJ (fun _=>?_) (fun _=>?_)
 all_goals refine ah.sym ?_
 all_goals refine ah.mk (fun _=>?_) (fun _=>?_)
 all_goals refine ah.no h1 ?_
 all_goals refine ah.yes h2 ?_
 all_goals repeat' first
  | refine ah.mk (fun _=>?_) (fun _=>?_)
  | refine ag.mkB (qz (n + 10) x.s _ hs.2 (by omega)) (fun _=>?_) (fun _=>?_)
 all_goals exact rfB (by simp_all only [l8,kU,lr,Bool.not_false,Bool.not_true,Bool.or_false,Bool.false_or,Bool.true_or,Bool.or_true,cond_true,cond_false,Bool.and_true,Bool.true_and,Bool.and_false,Bool.false_and,Bool.not_eq_true',Bool.not_eq_false'])
theorem Mr (n k:Nat) (x:Tm) (hs:SmN x) (hn:wt x < n + 9) (hk:(!iLt (cF x.k) 0 && iEq (.ofNat (aG (ae x.ts))) (cF x.k))=true) (cg:x.ls.all eA=true) (h1:iEq x.k 1=false) (h2:iEq x.k 2=false) (h3:iEq x.k 3=true) :
 dZ Tryz.cfg (RN (n + 11)) (Tryz.cfg.fc 136) k 115 85 [] Dn { nt:=85,tmps:=[(1,.ptr (.loc 1) 0),(27,.bool false)],locs:=[(1,aC x)],fix:=[] } St.empty (fun e A S=>match e with | .exit _=>False | _=>finish Tryz.cfg Tryz.f136 A S=some (.bool (bh x),St.empty)):=by
 have h8:iEq x.k 8=false:=eG h3 rfl
 have hw:=cr x
 have e:bh x=(l8 x && kU x && lr x):=by unfold bh;rw [hk,cg];rfl
 rw [e]
 refine ab.mk _ jJ ?_
 all_goals refine ah.mk (fun _=>?_) (fun _=>?_)
 all_goals refine ah.sym ?_
 all_goals refine ah.no h1 ?_
 all_goals refine ah.no h2 ?_
 all_goals refine ah.yes h3 ?_
 all_goals repeat' first
  | refine ah.mk (fun _=>?_) (fun _=>?_)
  | refine ag.mkB (qz (n + 10) x.s _ hs.2 (by omega)) (fun _=>?_) (fun _=>?_)
 all_goals exact rfB (by simp_all only [l8,kU,lr,Bool.not_false,Bool.not_true,Bool.or_false,Bool.false_or,Bool.true_or,Bool.or_true,cond_true,cond_false,Bool.and_true,Bool.true_and,Bool.and_false,Bool.false_and,Bool.not_eq_true',Bool.not_eq_false'])
theorem Ms (n k:Nat) (x:Tm) (hs:SmN x) (hn:wt x < n + 9) (hk:(!iLt (cF x.k) 0 && iEq (.ofNat (aG (ae x.ts))) (cF x.k))=true) (cg:x.ls.all eA=true) (h1:iEq x.k 1=false) (h2:iEq x.k 2=false) (h3:iEq x.k 3=false) (h8:iEq x.k 8=true) :
 dZ Tryz.cfg (RN (n + 11)) (Tryz.cfg.fc 136) k 115 85 [] Dn { nt:=85,tmps:=[(1,.ptr (.loc 1) 0),(27,.bool false)],locs:=[(1,aC x)],fix:=[] } St.empty (fun e A S=>match e with | .exit _=>False | _=>finish Tryz.cfg Tryz.f136 A S=some (.bool (bh x),St.empty)):=by
 have hw:=cr x
 have e:bh x=(l8 x && kU x && lr x):=by unfold bh;rw [hk,cg];rfl
 rw [e]
 refine ab.mk _ jJ ?_
 all_goals refine ah.sym ?_
 all_goals refine ah.mk (fun _=>?_) (fun _=>?_)
 all_goals refine ah.no h1 ?_
 all_goals refine ah.no h2 ?_
 all_goals refine ah.no h3 ?_
 all_goals refine ah.yes h8 ?_
 all_goals repeat' first
  | refine ah.mk (fun _=>?_) (fun _=>?_)
  | refine ag.mkB (qz (n + 10) x.s _ hs.2 (by omega)) (fun _=>?_) (fun _=>?_)
 all_goals exact rfB (by simp_all only [l8,kU,lr,Bool.not_false,Bool.not_true,Bool.or_false,Bool.false_or,Bool.true_or,Bool.or_true,cond_true,cond_false,Bool.and_true,Bool.true_and,Bool.and_false,Bool.false_and,Bool.not_eq_true',Bool.not_eq_false'])
theorem Mt (n k:Nat) (x:Tm) (hs:SmN x) (hn:wt x < n + 9) (hk:(!iLt (cF x.k) 0 && iEq (.ofNat (aG (ae x.ts))) (cF x.k))=true) (cg:x.ls.all eA=true) (h1:iEq x.k 1=false) (h2:iEq x.k 2=false) (h3:iEq x.k 3=false) (h8:iEq x.k 8=false) :
 dZ Tryz.cfg (RN (n + 11)) (Tryz.cfg.fc 136) k 115 85 [] Dn { nt:=85,tmps:=[(1,.ptr (.loc 1) 0),(27,.bool false)],locs:=[(1,aC x)],fix:=[] } St.empty (fun e A S=>match e with | .exit _=>False | _=>finish Tryz.cfg Tryz.f136 A S=some (.bool (bh x),St.empty)):=by
 have hw:=cr x
 have e:bh x=(l8 x && kU x && lr x):=by unfold bh;rw [hk,cg];rfl
 rw [e]
 refine ab.mkB jJ (fun _=>?_) (fun _=>?_)
 all_goals refine ah.mk (fun _=>?_) (fun _=>?_)
 all_goals refine ah.mk (fun _=>?_) (fun _=>?_)
 all_goals refine ah.no h1 ?_
 all_goals refine ah.no h2 ?_
 all_goals refine ah.no h3 ?_
 all_goals refine ah.no h8 ?_
 all_goals repeat' first
  | refine ah.mk (fun _=>?_) (fun _=>?_)
  | refine ag.mkB (qz (n + 10) x.s _ hs.2 (by omega)) (fun _=>?_) (fun _=>?_)
 all_goals exact rfB (by simp_all only [l8,kU,lr,Bool.not_false,Bool.not_true,Bool.or_false,Bool.false_or,Bool.true_or,Bool.or_true,cond_true,cond_false,Bool.and_true,Bool.true_and,Bool.and_false,Bool.false_and,Bool.not_eq_true',Bool.not_eq_false'])
theorem EZ (n:Nat) (x:Tm) (hs:SmN x) (hn:wt x < n + 9):frame Tryz.cfg (RN (n + 11)) (n + 11) 136 [aH x] St.empty=some (.bool (bh x),St.empty):=by
 have hw:=cr x
 have Dm:=Mm (n + 10) x.k St.empty
 refine aL Tryz.cfg _ (fn:=Tryz.f136) rfl rfl ?_
 cases hk:iLt (cF x.k) 0 with
 | true=>
  rw [hk] at Dm
  refine ag.mk _ _ Dm ?_
  exact rfB (by simp only [bh,hk,Bool.not_true,Bool.false_and])
 | false=>
 rw [hk,show k2F x.k=cF x.k by unfold k2F;rw [hk];rfl] at Dm
 refine ag.mk _ _ Dm ?_
 refine ah.mk (fun hk2=>?_) (fun hk2=>?_)
 ·exact rfB (by simp only [Bool.not_eq_true'] at hk2;rw [Dk] at hk2;simp only [bh,hk,hk2,Bool.and_false,Bool.false_and])
 have hkk:(!iLt (cF x.k) 0 && iEq (.ofNat (aG (ae x.ts))) (cF x.k))=true:=by simp only [Bool.not_eq_false'] at hk2;rw [Dk] at hk2;rw [hk,hk2];rfl
 refine ag.mkB (Mo n x.ls x.a x.b hs.1 (by omega) _) (fun cg=>?_) (fun cg=>?_)
 ·exact rfB (by simp only [Bool.not_eq_true'] at cg;simp only [bh,cg,Bool.and_false,Bool.false_and])
 ·simp only [Bool.not_eq_false'] at cg
  cases h1:iEq x.k 1 with
  | true=>exact Mp n (n + 11) x hs hn hkk cg h1
  | false=>
  cases h2:iEq x.k 2 with
  | true=>exact Mq n (n + 11) x hs hn hkk cg h1 h2
  | false=>
  cases h3:iEq x.k 3 with
  | true=>exact Mr n (n + 11) x hs hn hkk cg h1 h2 h3
  | false=>
  cases h8:iEq x.k 8 with
  | true=>exact Ms n (n + 11) x hs hn hkk cg h1 h2 h3 h8
  | false=>exact Mt n (n + 11) x hs hn hkk cg h1 h2 h3 h8
theorem Mu (n:Nat) (x:Tm) (S:St) (hs:SmN x) (hn:wt x < n + 9):RN (n + 12) (.f 136) [aH x] S=some (.bool (bh x),S):=bG (EZ n x hs hn) (by simp only [br,aq]) rfl rfl rfl rfl rfl
noncomputable def oJ (l:Int):St:={ heap:=[.cells 3 [.int .i64 l],.cells 87 [.fn 135 2 [] [.ptr (.box 0) 0,.ptr (.box 1) 0]]],aA:=[] }
noncomputable def Qx:Code:=jr Tryz.f135 0
@[reducible] noncomputable def oneMore (d:Nat):Option Tm→List (Nat×List V)
  | none=>[]
  | some z=>[(d,aC z)]
theorem GG (n k:Nat) (x:Tm) (d:Nat) (hd:d < 1000000) (K:Ex→Env→St→Prop) (hlen:x.ts.length < 1000000)
 (dy:∀y∈x.ts,∀l,l < 1000000→∃l' : Int,(match de bh y l d with | some m=>l'=.ofNat m | none=>True)∧
  RN n (.f 135) [aH y,.int .i64 (.ofNat d),.ptr (.box 0) 0,.ptr (.box 1) 0] (oJ (.ofNat l))=some (.bool (de bh y l d).isSome,oJ l')) :
 ∀(rem:List Tm) (j f l:Nat) (o:Option Tm),rem.length < f→(∀i,rem[i]?=x.ts[j + i]?)→j + rem.length=x.ts.length→l < 1000000→
 (match dD bh rem l d with
  | some l'=>∀o:Option Tm,K (.exit 0) { nt:=36,tmps:=[(1,.int .i64 (.ofNat (d + 1))),(3,.ptr (.box 1) 0),(23,.list (au x.c x.ts) (av x.d) 0 (ae x.ts)),(24,.int .i64 (.ofNat (aG (ae x.ts)))),(25,.int .i64 (.ofNat x.ts.length)),(26,.bool false)],locs:=(4,aC x)::oneMore 8 o,fix:=[] } (oJ (.ofNat l'))
  | none=>∀(l:Int) (z:Tm),K .ret { nt:=36,tmps:=[(6,.bool false)],locs:=[(4,aC x),(8,aC z)],fix:=[] } (oJ l))→
 aB (iter (evalCode Tryz.cfg (RN n) k 135 (Tryz.cfg.fc 135) Qx) f { nt:=36,tmps:=[(1,.int .i64 (.ofNat (d + 1))),(3,.ptr (.box 1) 0),(23,.list (au x.c x.ts) (av x.d) 0 (ae x.ts)),(24,.int .i64 (.ofNat (aG (ae x.ts)))),(25,.int .i64 (.ofNat j))],locs:=(4,aC x)::oneMore 8 o,fix:=[] } (oJ (.ofNat l))) K
 | [],j,f + 1,l,o,hf,hr,hj,hl,hK=>by
  have hjl:j=x.ts.length:=by simpa using hj
  subst hjl
  rw [dD] at hK
  have hK:=hK o
  cases o
  all_goals
   refine aB.round (nt:=36) (fx:=[]) ?_
   refine ah.no (gG (by omega)) ?_
   exact hK
 | y::rem,j,f + 1,l,o,hf,hr,hj,hl,hK=>by
  have hb:x.ts[j]?=some y:=by have:=hr 0;simpa using this.symm
  have hjl:j < x.ts.length:=(aGs hb).1
  obtain⟨l',hl1,hy⟩:=dy y (aMg hb) l hl
  rw [eJ] at hK
  cases o
  all_goals
   refine aB.round (nt:=36) (fx:=[]) ?_
   refine ah.yes (gE hjl) ?_
   refine ab.mk _ (bJ hb) ?_
   refine ab.mk _ (od (by omega)) ?_
   cases hs:de bh y l d with
   | none=>
    rw [hs] at hK hy
    refine ag.mk _ _ hy ?_
    exact hK l' y
   | some m=>
    rw [hs] at hK hy hl1
    have:=sP _ _ hs
    simp only at hl1
    subst hl1
    refine ag.mk _ _ hy ?_
    refine ab.mk _ (az (T:=3) (j:=j) (by omega)) ?_
    exact GG n k x d hd K hlen dy rem (j + 1) f m (some y) (by simp only [aLc] at hf;omega) (fun i=>by have:=hr (i + 1);simp only [List.getElem?_cons_succ] at this;rw [this];congr 1;omega) (by simp only [aLc] at hj;omega) (by omega) hK
theorem GH {x:Tm} (h:bh x=true):x.ts.length≤3:=by
 unfold bh at h
 simp only [Bool.and_eq_true] at h
 have h1:=h.1.1.2
 rw [bp,decide_eq_true_eq,al] at h1
 have:cF x.k≤3:=by
  unfold cF
  cases (iEq x.k 1 || iEq x.k 2 || iEq x.k 3)<;>cases (iEq x.k 4 || iEq x.k 5 || iEq x.k 6)<;>cases iEq x.k 7<;>cases iEq x.k 8<;>simp
 simp only [aOn] at h1
 omega
theorem E4 (n:Nat) (x:Tm) (l d:Nat) (hl:l < 1000000) (hd:d < 1000000) (hsm:Sm x) (hn:wt x < n + 1)
 (dy:∀y∈x.ts,∀l d,l < 1000000→d < 1000000→∃l' : Int,(match de bh y l d with | some m=>l'=.ofNat m | none=>True)∧
  RN (n + 12) (.f 135) [aH y,.int .i64 (.ofNat d),.ptr (.box 0) 0,.ptr (.box 1) 0] (oJ (.ofNat l))=some (.bool (de bh y l d).isSome,oJ l')) :
 ∃r,frame Tryz.cfg (RN (n + 12)) (n + 12) 135 [aH x,.int .i64 (.ofNat d),.ptr (.box 0) 0,.ptr (.box 1) 0] (oJ (.ofNat l))=some r∧
  ∃l' : Int,(match de bh x l d with | some m=>l'=.ofNat m | none=>True)∧r=(.bool (de bh x l d).isSome,oJ l'):=by
 have hn2:x.ts.length < n + 12:=by have:=hV x.ts;rw [cr] at hn;omega
 refine oe (fn:=Tryz.f135) rfl rfl ?_
 rw [js]
 cases l with
 | zero=>refine ab.mk _ rfl ?_;refine ah.yes rfl ?_;exact⟨_,rfl,-1,trivial,rfl⟩
 | succ l=>
 refine ab.mk _ (od (by omega)) ?_
 refine ah.no rfl ?_
 cases d with
 | zero=>refine ah.yes rfl ?_;exact⟨_,rfl,_,trivial,rfl⟩
 | succ d=>
 refine ah.no rfl ?_
 simp only
 refine ag.mkB (Mu n x _ ((gR x).1 hsm).1 (by omega)) (fun hq=>?_) (fun hq=>?_)
 ·rw [hq]
  have h3:=GH hq
  refine GG (n + 12) (n + 12) x d (by omega) _ (by omega) (fun y hy l hl=>dy y hy l d hl (by omega)) x.ts 0 (n + 12) l none hn2 (fun i=>by rw [Nat.zero_add]) (by rw [Nat.zero_add]) (by omega) ?_
  cases hs:dD bh x.ts l d with
  | some l'=>intro o;cases o<;>exact⟨_,rfl,_,rfl,rfl⟩
  | none=>exact fun l z=>⟨_,rfl,l,trivial,rfl⟩
 ·rw [hq]
  exact⟨_,rfl,_,trivial,rfl⟩
theorem GI:∀(n:Nat) (x:Tm) (l d:Nat),l < 1000000→d < 1000000→Sm x→wt x < n→∃l' : Int,(match de bh x l d with | some m=>l'=.ofNat m | none=>True)∧
 RN (n + 12) (.f 135) [aH x,.int .i64 (.ofNat d),.ptr (.box 0) 0,.ptr (.box 1) 0] (oJ (.ofNat l))=some (.bool (de bh x l d).isSome,oJ l')
 | 0,x,l,d,_,_,_,h=>by omega
 | n + 1,x,l,d,hl,hd,hsm,h=>by
  obtain⟨r,h1,l',h2,rfl⟩:=E4 n x l d hl hd hsm h (fun y hy l d hl hd=>GI n y l d hl hd (((gR x).1 hsm).2 y hy) (by have:=cz hy;omega))
  exact⟨l',h2,bC rfl h1⟩
theorem E6 (n:Nat) (x:Tm) (S:St) (hsm:Sm x) (h:wt x < n):RN (n + 13) (.f 67) [aH x] S=some (.bool (cM x),S):=by
 obtain⟨l',_,h2⟩:=GI n x 65536 4096 (by omega) (by omega) hsm h
 have:frame Tryz.cfg (RN (n + 12)) (n + 12) 67 [aH x] St.empty=some (.bool (cM x),oJ l'):=by
  refine aL Tryz.cfg _ (fn:=Tryz.f67) rfl rfl ?_
  refine ag.mk _ _ h2 ?_
  rfl
 exact bG this (by simp only [br,aq]) rfl rfl rfl rfl rfl
theorem Mv (n:Nat) (x:Tm) (i:Int) (S:St):RN (n + 1) (.f 169) [aH x,.int .i64 i] S=some (.int .i64 (aY x.k i),S):=by
 have:frame Tryz.cfg (RN n) n 169 [aH x,.int .i64 i] St.empty=some (.int .i64 (aY x.k i),St.empty):=by
  refine aL Tryz.cfg _ (fn:=Tryz.f169) rfl rfl ?_
  repeat' (refine ah.mk (fun _=>?_) (fun _=>?_))
  all_goals exact rfI (by simp [aY, *])
 exact bG this (by simp only [br,bx,aq]) rfl rfl rfl rfl rfl
theorem GJ (n:Nat) (x:Tm) (i:Int) (S:St):RN (n + 1) (.f 201) [aH x,.int .i64 i] S=some (.int .i64 (aY x.k i),S):=by
 have:frame Tryz.cfg (RN n) n 201 [aH x,.int .i64 i] St.empty=some (.int .i64 (aY x.k i),St.empty):=by
  refine aL Tryz.cfg _ (fn:=Tryz.f201) rfl rfl ?_
  repeat' (refine ah.mk (fun _=>?_) (fun _=>?_))
  all_goals exact rfI (by simp [aY, *])
 exact bG this (by simp only [br,bx,aq]) rfl rfl rfl rfl rfl
theorem sR {x y:Tm} (h:y∈x.ts):dW y < dW x:=by
 have:∀(ts:List Tm),∀y∈ts,dW y≤gB ts:=by
  intro ts
  induction ts with
  | nil=>intro y hy;cases hy
  | cons t ts ih=>
   intro y hy
   rw [fR]
   cases hy with
   | head=>omega
   | tail _ hy=>have:=ih y hy;omega
 have:=this x.ts y h
 rw [eM x];omega
def ju (T T' : List Nat):Prop:=T.length≤T'.length∧∀t v,nth T t=some v→nth T' t=some v
theorem ju.refl (T:List Nat):ju T T:=⟨Nat.le_refl _,fun _ _ h=>h⟩
theorem ju.trans {T T' T'' : List Nat} (h:ju T T') (h' : ju T' T''):ju T T'':=⟨Nat.le_trans h.1 h'.1,fun t v e=>h'.2 t v (h.2 t v e)⟩
noncomputable def eN:Tok→Tok | .own _=>.no | t=>t
@[reducible] noncomputable def pQ (r:Tm) (tk:Tok):List V:=[.int .u8 r.k,.int .i64 r.n,.str r.s,.list (au r.a r.ls) (av r.b) 0 (r.ls.map enc),.list (au r.c r.ts) tk 0 (ae r.ts)]
theorem rQ (r:Tm) (tk:Tok) (h:eN tk=av r.d):V.agg (bg aj (pQ r tk))=aH r:=by
 show V.agg [_,_,_,aj (.list _ (av r.b) 0 _),aj (.list _ tk 0 _)]=_
 rw [gQ]
 cases tk with
 | no=>rw [show aj (.list (au r.c r.ts) .no 0 (ae r.ts))=.list (au r.c r.ts) (av r.d) 0 (ae r.ts) by rw [← h];rfl];rfl
 | tight=>rw [show aj (.list (au r.c r.ts) .tight 0 (ae r.ts))=.list (au r.c r.ts) (av r.d) 0 (ae r.ts) by rw [← h];rfl];rfl
 | own t=>rw [show aj (.list (au r.c r.ts) (.own t) 0 (ae r.ts))=.list (au r.c r.ts) (av r.d) 0 (ae r.ts) by rw [← h];rfl];rfl
def zv {α:Type} (T:List Nat) (done:List α) (tok:Tok):Prop:=(done=[]∧tok=.tight)∨∃t,tok=.own t∧nth T t=some done.length∧done≠[]
theorem zv.ext {α:Type} {T T' : List Nat} {done:List α} {tok:Tok} (h:zv T done tok) (e:ju T T'):zv T' done tok:=by
 rcases h with h | ⟨t,h1,h2,h3⟩
 ·exact .inl h
 ·exact .inr ⟨t,h1,e.2 _ _ h2,h3⟩
theorem nx (l m:List Tm):ae (l++m)=cq (ae l) (ae m):=by rw [bK,cU,cU,cU,List.map_append]
theorem mK {α:Type} {l:List α} {t:Nat} {v:α} (h:nth l t=some v):t < l.length:=by rw [bR] at h;exact (aGs h).1
theorem Qy {A:Env} {H:List Blk} {T:List Nat} {ac:Acc} {done:List Tm} {tok:Tok} {row:V} {r:Tm} (hac:ac.heap=true) (hg:zv T done tok) (hlen:done.length < 1000000000) (BN:row=aH r) :
 ∃T' aP,append Tryz.cfg A { heap:=H,aA:=T } ac 23 (.list (au false done) tok 0 (ae done)) (.list 5 .tight 0 [row])=some (.list (au false (done++[r])) aP 0 (ae (done++[r])),{ heap:=H,aA:=T' })∧
  zv T' (done++[r]) aP∧T.length≤T'.length∧(∀t,aP=.own t→∀t' v,t'≠t→nth T t'=some v→nth T' t'=some v)∧(∀t,aP=.own t→tok=.own t∨t=T.length):=by
 subst BN
 rcases hg with⟨rfl,rfl⟩ | ⟨t,rfl,h2,h3⟩
 ·refine⟨cq T [1],.own (aG T),?_,.inr ⟨_,rfl,?_,by simp⟩,?_,?_,?_⟩
  ·show (ite _ _ _)=_
   refine (if_pos ?_).trans ?_
   ·exact (⟨by omega,.inl rfl,by omega,hac⟩ : 0 < 5∧(true=true∨0=5)∧(0 + 1) * 81≤140737488355328∧ac.heap=true)
   ·rw [show ae ([]++[r])=[aH r] from cU [r],show ae []=[] from cU []]
    rfl
  ·rw [bK,bR,an,List.getElem?_append_right (Nat.le_refl _),Nat.sub_self];rfl
  ·rw [bK];simp
  ·intro t _ t' v _ hv
   rw [bR] at hv
   rw [bK,bR,List.getElem?_append_left (aGs hv).1];exact hv
  ·intro t ht;cases ht;exact .inr (an T)
 ·refine⟨tC T t (aG (ae done) + 1),.own t,?_,.inr ⟨t,rfl,?_,by simp⟩,?_,?_,?_⟩
  ·have hne:(ae done).isEmpty=false:=by
    cases done with
    | nil=>exact absurd rfl h3
    | cons d ds=>rw [ae];rfl
   have hsz:au false done=5:=by
    cases done with
    | nil=>exact absurd rfl h3
    | cons d ds=>rfl
   have SG:au false (done++[r])=5:=by
    cases done with
    | nil=>exact absurd rfl h3
    | cons d ds=>rfl
   rw [hsz,SG]
   show (ite _ _ _)=_
   refine (if_pos ?_).trans ?_
   ·exact (⟨by omega,.inr rfl,by rw [al];omega,hac⟩ : 0 < 5∧((ae done).isEmpty=true∨5=5)∧(aG (ae done) + 1) * 81≤140737488355328∧ac.heap=true)
   show (ite _ _ _)=_
   refine (if_pos ?_).trans ?_
   ·show nth T t=some (aG (ae done))
    rw [al];exact h2
   ·rw [nx,show ae [r]=[aH r] from cU [r]]
    rfl
  ·rw [eT,bR,List.getElem?_set_self (by exact mK h2),al];simp
  ·rw [eT,List.length_set];exact Nat.le_refl _
  ·intro t1 ht1 t' v hne hv
   cases ht1
   rw [eT,bR,List.getElem?_set_ne (fun e=>hne e.symm),← bR];exact hv
  ·intro t1 ht1;cases ht1;exact .inl rfl
noncomputable def Tm.xk (x:Tm) (n:Int):Tm:=.mk x.k n x.s x.a x.b x.c x.d x.ls x.ts
mutual
noncomputable def dE {σ:Type} (step:σ→Tm→Int→Tm×σ):Tm→σ→Int→Tm×σ
 | .mk k n s a b c d ls ts,st,aa=>bif iEq k 2 then step st (.mk k n s a b c d ls ts) aa
  else (.mk k n s a b false (cG step k ts 0 st aa).1.isEmpty ls (cG step k ts 0 st aa).1,(cG step k ts 0 st aa).2)
noncomputable def cG {σ:Type} (step:σ→Tm→Int→Tm×σ) (k:Int):List Tm→Nat→σ→Int→List Tm×σ
 | [],_,st,_=>([],st)
 | t::ts,i,st,aa=>((dE step t st (dv aa (aY k (.ofNat i)))).1::(cG step k ts (i + 1) (dE step t st (dv aa (aY k (.ofNat i)))).2 aa).1,
  (cG step k ts (i + 1) (dE step t st (dv aa (aY k (.ofNat i)))).2 aa).2)
end
noncomputable def Tm.rf (x:Tm) (l:List Tm):Tm:=.mk x.k x.n x.s x.a x.b false l.isEmpty x.ls l
theorem kG {σ:Type} (step:σ→Tm→Int→Tm×σ) (x:Tm) (st:σ) (aa:Int):dE step x st aa=bif iEq x.k 2 then step st x aa
 else (x.rf (cG step x.k x.ts 0 st aa).1,(cG step x.k x.ts 0 st aa).2):=by cases x;rw [dE];rfl
def aw {α:Type} (T0 T:List Nat) (done:List α) (tok:Tok):Prop:=ju T0 T∧((done=[]∧tok=.tight)∨∃t,tok=.own t∧T0.length≤t∧nth T t=some done.length∧done≠[])
theorem aw.start {α:Type} (T:List Nat):aw (α:=α) T T [] .tight:=⟨ju.refl T,.inl ⟨rfl,rfl⟩⟩
theorem aw.ext {α:Type} {T0 T T' : List Nat} {done:List α} {tok:Tok} (h:aw T0 T done tok) (e:ju T T'):aw T0 T' done tok:=by
 obtain⟨h0,h⟩:=h
 refine⟨h0.trans e,?_⟩
 rcases h with h | ⟨t,h1,h2,h3,h4⟩
 ·exact .inl h
 ·exact .inr ⟨t,h1,h2,e.2 _ _ h3,h4⟩
theorem aw.eN {α:Type} {T0 T:List Nat} {done:List α} {tok:Tok} (h:aw T0 T done tok):eN tok=av done.isEmpty:=by
 rcases h.2 with⟨rfl,rfl⟩ | ⟨t,rfl,_,_,h4⟩
 ·rfl
 ·cases done with
  | nil=>exact absurd rfl h4
  | cons d ds=>rfl
theorem qA (b:Bool):eN (av b)=av b:=by cases b<;>rfl
theorem xm {A B:Env} {S:St} {ac ac' : Acc} {T:Nat} {sz tok top rows sz' aP m3 jI} (h:ac.heap=ac'.heap) :
 append Tryz.cfg A S ac T (.list sz tok top rows) (.list sz' aP m3 jI)=append Tryz.cfg B S ac' T (.list sz tok top rows) (.list sz' aP m3 jI):=by
 simp only [append,fX,ko,h]
theorem JS {A:Env} {H:List Blk} {T0 T:List Nat} {ac:Acc} {done:List Tm} {tok:Tok} {row:V} {r:Tm} (hac:ac.heap=true) (hg:aw T0 T done tok) (hlen:done.length < 1000000000) (BN:row=aH r) :
 ∃T' aP,append Tryz.cfg A { heap:=H,aA:=T } ac 23 (.list (au false done) tok 0 (ae done)) (.list 5 .tight 0 [row])=some (.list (au false (done++[r])) aP 0 (ae (done++[r])),{ heap:=H,aA:=T' })∧
  aw T0 T' (done++[r]) aP:=by
 obtain⟨h0,hg⟩:=hg
 have hg' : zv T done tok:=by
  rcases hg with h | ⟨t,h1,h2,h3,h4⟩
  ·exact .inl h
  ·exact .inr ⟨t,h1,h3,h4⟩
 obtain⟨T',aP,k1,k2,k3,k4,k5⟩:=Qy (A:=A) (H:=H) hac hg' hlen BN
 rcases k2 with⟨h,_⟩ | ⟨t,rfl,k6,k7⟩
 ·simp at h
 have ht:T0.length≤t:=by
  rcases k5 t rfl with rfl | rfl
  ·rcases hg with⟨_,h⟩ | ⟨t',h1,h2,_⟩
   ·cases h
   ·cases h1;exact h2
  ·exact h0.1
 refine⟨T',.own t,k1,⟨Nat.le_trans h0.1 k3,fun t' v hv=>k4 t rfl t' v (fun e=>?_) (h0.2 t' v hv)⟩,.inr ⟨t,rfl,ht,k6,k7⟩⟩
 subst e
 have:=mK hv
 omega
@[reducible] noncomputable def ij:List V:=[.int .u8 0,.int .i64 0,.str [],.list 0 .tight 0 [],.list 0 .tight 0 []]
noncomputable def Qz:Code:=jr Tryz.f189 0
noncomputable def oK (by_:Int) (s:Unit) (T:List Nat):St:={ heap:=[.cells 3 [.int .i64 by_]],aA:=T }
@[reducible] noncomputable def xn:V:=.fn 202 1 [] [.ptr (.box 0) 0]
noncomputable def df (by_:Int) (s:Unit) (x:Tm) (a:Int):Tm×Unit:=(bif !iLt x.n a then x.xk (dv x.n by_) else x,())
theorem Mw (n:Nat) (by_:Int) (s:Unit) (x:Tm) (a:Int) (T:List Nat) (h2:iEq x.k 2=true):RN (n + 1) (.f 202) [aH x,.int .i64 a,.ptr (.box 0) 0] (oK by_ s T)=some (aH (df by_ s x a).1,oK by_ (df by_ s x a).2 T):=by
 refine bC rfl ?_
 refine aL Tryz.cfg _ (fn:=Tryz.f202) rfl rfl ?_
 unfold df
 refine ah.mk (fun h=>?_) (fun h=>?_)
 ·rw [h]
  refine ab.mk _ rfl ?_
  rfl
 ·rw [h]
  rfl
theorem GK (n k:Nat) (x:Tm) (aa:Int) (by_:Int) (K:Ex→Env→St→Prop) (hlen:x.ts.length < 1000000000) (T0:List Nat)
 (dy:∀y∈x.ts,∀(s:Unit) a T,∃T' tk,ju T T'∧eN tk=av (dE (df by_) y s a).1.d∧
  RN (n + 2) (.f 189) [aH y,.int .i64 a,xn] (oK by_ s T)=some (.agg (pQ (dE (df by_) y s a).1 tk),oK by_ (dE (df by_) y s a).2 T')) :
 ∀(rem:List Tm) (j f:Nat) (done:List Tm) (s:Unit) (T:List Nat) (tok:Tok) (o:Option Tm),rem.length < f→(∀i,rem[i]?=x.ts[j + i]?)→j + rem.length=x.ts.length→j=done.length→aw T0 T done tok→
 (∀T' aP (o:Option Tm),aw T0 T' (done++(cG (df by_) x.k rem j s aa).1) aP→K (.exit 0) { nt:=40,tmps:=[(1,.int .i64 aa),(2,xn),(3,.ptr (.loc 3) 0),(6,.ptr (.loc 6) 0),(7,.list (au false (done++(cG (df by_) x.k rem j s aa).1)) aP 0 (ae (done++(cG (df by_) x.k rem j s aa).1))),(18,.list (au x.c x.ts) (av x.d) 0 (ae x.ts)),(19,.int .i64 (.ofNat (aG (ae x.ts)))),(20,.int .i64 (.ofNat x.ts.length)),(21,.bool false)],locs:=(3,aC x)::(6,ij)::oneMore 9 o,fix:=[] } (oK by_ (cG (df by_) x.k rem j s aa).2 T'))→
 aB (iter (evalCode Tryz.cfg (RN (n + 2)) k 189 (Tryz.cfg.fc 189) Qz) f { nt:=40,tmps:=[(1,.int .i64 aa),(2,xn),(3,.ptr (.loc 3) 0),(6,.ptr (.loc 6) 0),(7,.list (au false done) tok 0 (ae done)),(18,.list (au x.c x.ts) (av x.d) 0 (ae x.ts)),(19,.int .i64 (.ofNat (aG (ae x.ts)))),(20,.int .i64 (.ofNat j))],locs:=(3,aC x)::(6,ij)::oneMore 9 o,fix:=[] } (oK by_ s T)) K
 | [],j,f + 1,done,s,T,tok,o,hf,hr,hj,hjd,hg,hK=>by
  have hjl:j=x.ts.length:=by simpa using hj
  subst hjl
  rw [cG] at hK
  simp only [List.append_nil] at hK
  have hK:=hK T tok o hg
  cases o
  all_goals
   refine aB.round (nt:=40) (fx:=[]) ?_
   refine ah.no (gG (by omega)) ?_
   exact hK
 | y::rem,j,f + 1,done,s,T,tok,o,hf,hr,hj,hjd,hg,hK=>by
  have hb:x.ts[j]?=some y:=by have:=hr 0;simpa using this.symm
  have hjl:j < x.ts.length:=(aGs hb).1
  obtain⟨T1,tk,e1,e2,hy⟩:=dy y (aMg hb) s (dv aa (aY x.k (.ofNat j))) T
  obtain⟨T2,bH,ha,hg2⟩:=JS (A:={ nt:=0,tmps:=[],locs:=[],fix:=[] }) (H:=(oK by_ (dE (df by_) y s (dv aa (aY x.k (.ofNat j)))).2 T1).heap) (ac:=⟨false,none,true⟩) rfl (hg.ext e1) (by omega) (rQ _ tk e2)
  rw [cG] at hK
  dsimp only at hK
  rw [List.append_cons] at hK
  cases o
  all_goals
   refine aB.round (nt:=40) (fx:=[]) ?_
   refine ah.yes (gE hjl) ?_
   refine ab.mk _ (bJ hb) ?_
   refine ag.mk _ _ (GJ (n + 1) x (.ofNat j) _) ?_
   refine ab.mk _ rfl ?_
   refine ag.mk _ _ hy ?_
   refine ab.mk _ rfl ?_
   refine cN.mk _ _ ((xm rfl).trans ha) ?_
   refine ab.mk _ (az (T:=3) (j:=j) (by omega)) ?_
   exact GK n k x aa by_ K hlen T0 dy rem (j + 1) f (done++[(dE (df by_) y s (dv aa (aY x.k (.ofNat j)))).1]) _ T2 bH (some y) (by simp only [aLc] at hf;omega) (fun i=>by have:=hr (i + 1);simp only [List.getElem?_cons_succ] at this;rw [this];congr 1;omega) (by simp only [aLc] at hj;omega) (by simp [hjd]) hg2 hK
theorem GL:∀(n:Nat) (x:Tm) (aa:Int) (by_:Int) (s:Unit) (T:List Nat),dW x < 1000000000→wt x < n→∃T' tk,ju T T'∧eN tk=av (dE (df by_) x s aa).1.d∧
 RN (n + 2) (.f 189) [aH x,.int .i64 aa,xn] (oK by_ s T)=some (.agg (pQ (dE (df by_) x s aa).1 tk),oK by_ (dE (df by_) x s aa).2 T')
 | 0,x,aa,by_,s,T,_,h=>by omega
 | n + 1,x,aa,by_,s,T,hsz,h=>by
  have hn:x.ts.length < n + 2:=by have:=hV x.ts;rw [cr] at h;omega
  have hlen:x.ts.length < 1000000000:=by have:=jT x.ts;rw [eM] at hsz;omega
  have key:∃r,frame Tryz.cfg (RN (n + 2)) (n + 2) 189 [aH x,.int .i64 aa,xn] (oK by_ s T)=some r∧
   ∃T' tk,ju T T'∧eN tk=av (dE (df by_) x s aa).1.d∧r=(.agg (pQ (dE (df by_) x s aa).1 tk),oK by_ (dE (df by_) x s aa).2 T'):=by
   refine oe (fn:=Tryz.f189) rfl rfl ?_
   rw [kG]
   refine ah.mk (fun h2=>?_) (fun h2=>?_)
   ·rw [h2]
    refine ag.mk _ _ (Mw (n + 1) by_ s x aa T h2) ?_
    exact⟨_,rfl,T,_,ju.refl T,qA _,rfl⟩
   ·rw [h2]
    refine GK n (n + 2) x aa by_ _ hlen T (fun y hy s a T=>GL n y a by_ s T (by have:=sR hy;omega) (by have:=cz hy;omega)) x.ts 0 (n + 2) [] s T .tight none hn (fun i=>by rw [Nat.zero_add]) (by rw [Nat.zero_add]) rfl (aw.start T) ?_
    intro T' aP o hg
    simp only [List.nil_append] at hg ⊢
    have hs:=hg.eN
    rcases hg.2 with⟨hl,rfl⟩ | ⟨t,rfl,hl⟩
    ·cases o
     all_goals exact⟨_,rfl,T',.tight,hg.1,hs,rfl⟩
    ·cases o
     all_goals exact⟨_,rfl,T',.own t,hg.1,hs,rfl⟩
  obtain⟨r,h1,T',tk,h2,h3,rfl⟩:=key
  exact⟨T',tk,h2,h3,bC rfl h1⟩
noncomputable def xo (by_:Int) (s:Bool) (T:List Nat):St:={ heap:=[.cells 3 [.int .i64 by_],.cells 4 [.bool s]],aA:=T }
@[reducible] noncomputable def Dp:V:=.fn 190 2 [] [.ptr (.box 1) 0,.ptr (.box 0) 0]
noncomputable def cY (by_:Int) (s:Bool) (x:Tm) (a:Int):Tm×Bool:=(x,s || (!iLt x.n a && iLt x.n (sQ a by_)))
theorem O6 (n:Nat) (by_:Int) (s:Bool) (x:Tm) (a:Int) (T:List Nat) (h2:iEq x.k 2=true):RN (n + 1) (.f 190) [aH x,.int .i64 a,.ptr (.box 1) 0,.ptr (.box 0) 0] (xo by_ s T)=some (aH (cY by_ s x a).1,xo by_ (cY by_ s x a).2 T):=by
 refine bC rfl ?_
 refine aL Tryz.cfg _ (fn:=Tryz.f190) rfl rfl ?_
 unfold cY
 cases s with
 | true=>rfl
 | false=>
  refine ah.mk (fun h=>?_) (fun h=>?_)
  ·rw [h]
   refine ab.mk _ rfl ?_
   refine ah.mk (fun h3=>?_) (fun h3=>?_)
   ·rw [show iLt x.n (sQ a by_)=true from h3];rfl
   ·rw [show iLt x.n (sQ a by_)=false from h3];rfl
  ·rw [h];rfl
theorem JT (n k:Nat) (x:Tm) (aa:Int) (by_:Int) (K:Ex→Env→St→Prop) (hlen:x.ts.length < 1000000000) (T0:List Nat)
 (dy:∀y∈x.ts,∀(s:Bool) a T,∃T' tk,ju T T'∧eN tk=av (dE (cY by_) y s a).1.d∧
  RN (n + 2) (.f 189) [aH y,.int .i64 a,Dp] (xo by_ s T)=some (.agg (pQ (dE (cY by_) y s a).1 tk),xo by_ (dE (cY by_) y s a).2 T')) :
 ∀(rem:List Tm) (j f:Nat) (done:List Tm) (s:Bool) (T:List Nat) (tok:Tok) (o:Option Tm),rem.length < f→(∀i,rem[i]?=x.ts[j + i]?)→j + rem.length=x.ts.length→j=done.length→aw T0 T done tok→
 (∀T' aP (o:Option Tm),aw T0 T' (done++(cG (cY by_) x.k rem j s aa).1) aP→K (.exit 0) { nt:=40,tmps:=[(1,.int .i64 aa),(2,Dp),(3,.ptr (.loc 3) 0),(6,.ptr (.loc 6) 0),(7,.list (au false (done++(cG (cY by_) x.k rem j s aa).1)) aP 0 (ae (done++(cG (cY by_) x.k rem j s aa).1))),(18,.list (au x.c x.ts) (av x.d) 0 (ae x.ts)),(19,.int .i64 (.ofNat (aG (ae x.ts)))),(20,.int .i64 (.ofNat x.ts.length)),(21,.bool false)],locs:=(3,aC x)::(6,ij)::oneMore 9 o,fix:=[] } (xo by_ (cG (cY by_) x.k rem j s aa).2 T'))→
 aB (iter (evalCode Tryz.cfg (RN (n + 2)) k 189 (Tryz.cfg.fc 189) Qz) f { nt:=40,tmps:=[(1,.int .i64 aa),(2,Dp),(3,.ptr (.loc 3) 0),(6,.ptr (.loc 6) 0),(7,.list (au false done) tok 0 (ae done)),(18,.list (au x.c x.ts) (av x.d) 0 (ae x.ts)),(19,.int .i64 (.ofNat (aG (ae x.ts)))),(20,.int .i64 (.ofNat j))],locs:=(3,aC x)::(6,ij)::oneMore 9 o,fix:=[] } (xo by_ s T)) K
 | [],j,f + 1,done,s,T,tok,o,hf,hr,hj,hjd,hg,hK=>by
  have hjl:j=x.ts.length:=by simpa using hj
  subst hjl
  rw [cG] at hK
  simp only [List.append_nil] at hK
  have hK:=hK T tok o hg
  cases o
  all_goals
   refine aB.round (nt:=40) (fx:=[]) ?_
   refine ah.no (gG (by omega)) ?_
   exact hK
 | y::rem,j,f + 1,done,s,T,tok,o,hf,hr,hj,hjd,hg,hK=>by
  have hb:x.ts[j]?=some y:=by have:=hr 0;simpa using this.symm
  have hjl:j < x.ts.length:=(aGs hb).1
  obtain⟨T1,tk,e1,e2,hy⟩:=dy y (aMg hb) s (dv aa (aY x.k (.ofNat j))) T
  obtain⟨T2,bH,ha,hg2⟩:=JS (A:={ nt:=0,tmps:=[],locs:=[],fix:=[] }) (H:=(xo by_ (dE (cY by_) y s (dv aa (aY x.k (.ofNat j)))).2 T1).heap) (ac:=⟨false,none,true⟩) rfl (hg.ext e1) (by omega) (rQ _ tk e2)
  rw [cG] at hK
  dsimp only at hK
  rw [List.append_cons] at hK
  cases o
  all_goals
   refine aB.round (nt:=40) (fx:=[]) ?_
   refine ah.yes (gE hjl) ?_
   refine ab.mk _ (bJ hb) ?_
   refine ag.mk _ _ (GJ (n + 1) x (.ofNat j) _) ?_
   refine ab.mk _ rfl ?_
   refine ag.mk _ _ hy ?_
   refine ab.mk _ rfl ?_
   refine cN.mk _ _ ((xm rfl).trans ha) ?_
   refine ab.mk _ (az (T:=3) (j:=j) (by omega)) ?_
   exact JT n k x aa by_ K hlen T0 dy rem (j + 1) f (done++[(dE (cY by_) y s (dv aa (aY x.k (.ofNat j)))).1]) _ T2 bH (some y) (by simp only [aLc] at hf;omega) (fun i=>by have:=hr (i + 1);simp only [List.getElem?_cons_succ] at this;rw [this];congr 1;omega) (by simp only [aLc] at hj;omega) (by simp [hjd]) hg2 hK
theorem JU:∀(n:Nat) (x:Tm) (aa:Int) (by_:Int) (s:Bool) (T:List Nat),dW x < 1000000000→wt x < n→∃T' tk,ju T T'∧eN tk=av (dE (cY by_) x s aa).1.d∧
 RN (n + 2) (.f 189) [aH x,.int .i64 aa,Dp] (xo by_ s T)=some (.agg (pQ (dE (cY by_) x s aa).1 tk),xo by_ (dE (cY by_) x s aa).2 T')
 | 0,x,aa,by_,s,T,_,h=>by omega
 | n + 1,x,aa,by_,s,T,hsz,h=>by
  have hn:x.ts.length < n + 2:=by have:=hV x.ts;rw [cr] at h;omega
  have hlen:x.ts.length < 1000000000:=by have:=jT x.ts;rw [eM] at hsz;omega
  have key:∃r,frame Tryz.cfg (RN (n + 2)) (n + 2) 189 [aH x,.int .i64 aa,Dp] (xo by_ s T)=some r∧
   ∃T' tk,ju T T'∧eN tk=av (dE (cY by_) x s aa).1.d∧r=(.agg (pQ (dE (cY by_) x s aa).1 tk),xo by_ (dE (cY by_) x s aa).2 T'):=by
   refine oe (fn:=Tryz.f189) rfl rfl ?_
   rw [kG]
   refine ah.mk (fun h2=>?_) (fun h2=>?_)
   ·rw [h2]
    refine ag.mk _ _ (O6 (n + 1) by_ s x aa T h2) ?_
    exact⟨_,rfl,T,_,ju.refl T,qA _,rfl⟩
   ·rw [h2]
    refine JT n (n + 2) x aa by_ _ hlen T (fun y hy s a T=>JU n y a by_ s T (by have:=sR hy;omega) (by have:=cz hy;omega)) x.ts 0 (n + 2) [] s T .tight none hn (fun i=>by rw [Nat.zero_add]) (by rw [Nat.zero_add]) rfl (aw.start T) ?_
    intro T' aP o hg
    simp only [List.nil_append] at hg ⊢
    have hs:=hg.eN
    rcases hg.2 with⟨hl,rfl⟩ | ⟨t,rfl,hl⟩
    ·cases o
     all_goals exact⟨_,rfl,T',.tight,hg.1,hs,rfl⟩
    ·cases o
     all_goals exact⟨_,rfl,T',.own t,hg.1,hs,rfl⟩
  obtain⟨r,h1,T',tk,h2,h3,rfl⟩:=key
  exact⟨T',tk,h2,h3,bC rfl h1⟩
noncomputable def zTm:Tm:=.mk 0 0 [] false true false true [] []
noncomputable def zw (x:Tm):Tm×Int:=match cM x with | true=>(x,0) | false=>(zTm,4)
@[reducible] noncomputable def zx (r:Tm×Int):V:=.tuple [aH r.1,.int .i64 r.2]
theorem uS (r:Tm×Int):(zx r).b8=zx r:=by
 show V.tuple [(aH r.1).strip,_]=_
 rw [fu]
 rfl
theorem O7 (n:Nat) (x:Tm) (S:St) (hsm:Sm x) (h:wt x < n):RN (n + 14) (.f 191) [aH x] S=some (zx (zw x),S):=by
 have:frame Tryz.cfg (RN (n + 13)) (n + 13) 191 [aH x] St.empty=some (zx (zw x),St.empty):=by
  refine aL Tryz.cfg _ (fn:=Tryz.f191) rfl rfl ?_
  unfold zw
  refine ag.mkB (E6 n x _ hsm h) (fun hm=>?_) (fun hm=>?_)
  ·rw [hm];rfl
  ·rw [hm];rfl
 exact bG this (by simp only [br,aq]) rfl rfl rfl rfl (uS _)
noncomputable def a8 (x:Tm) (from_ by_:Int):Tm:=(dE (df by_) x () from_).1
theorem O8 (n:Nat) (x:Tm) (from_ by_:Int) (S:St) (hsz:dW x < 1000000000) (h:wt x < n):RN (n + 3) (.f 192) [aH x,.int .i64 from_,.int .i64 by_] S=some (aH (a8 x from_ by_),S):=by
 obtain⟨T',tk,_,h2,h3⟩:=GL n x from_ by_ () [] hsz h
 have:frame Tryz.cfg (RN (n + 2)) (n + 2) 192 [aH x,.int .i64 from_,.int .i64 by_] St.empty=some (.agg (pQ (a8 x from_ by_) tk),oK by_ () T'):=by
  refine aL Tryz.cfg _ (fn:=Tryz.f192) rfl rfl ?_
  refine ag.mk _ _ h3 ?_
  rfl
 exact bG this (by simp only [br,bx,aq]) rfl rfl rfl rfl (rQ _ tk h2)
noncomputable def liftM (x:Tm) (from_ by_:Int):Tm×Int:=bif iLt from_ 0 || !cM x then (zTm,1) else bif (dE (cY by_) x false from_).2 then (zTm,7) else zw (a8 x from_ by_)
theorem O9 (n:Nat) (x:Tm) (from_ by_:Int) (S:St) (hsm:Sm x) (hsz:dW x < 1000000000) (h:wt x < n) (SH:Sm (a8 x from_ by_)) (h2:wt (a8 x from_ by_) < n) :
 RN (n + 15) (.f 165) [aH x,.int .i64 from_,.int .i64 by_] S=some (zx (liftM x from_ by_),S):=by
 have:∃S',frame Tryz.cfg (RN (n + 14)) (n + 14) 165 [aH x,.int .i64 from_,.int .i64 by_] St.empty=some (zx (liftM x from_ by_),S'):=by
  refine Jl Tryz.cfg _ (fn:=Tryz.f165) rfl rfl ?_
  unfold liftM
  refine ah.mk (fun h0=>?_) (fun h0=>?_)
  ·rw [h0]
   exact⟨_,rfl⟩
  ·rw [h0]
   refine ag.mkB (E6 (n + 1) x _ hsm (by omega)) (fun hm=>?_) (fun hm=>?_)
   ·rw [hm]
    obtain⟨T',tk,_,k2,k3⟩:=JU (n + 12) x from_ by_ false [] hsz (by omega)
    refine ag.mk _ _ k3 ?_
    cases hh:(dE (cY by_) x false from_).2 with
    | true=>exact⟨_,rfl⟩
    | false=>
     refine ag.mk _ _ (O8 (n + 11) x from_ by_ _ hsz (by omega)) ?_
     refine ag.mk _ _ (O7 n (a8 x from_ by_) _ SH h2) ?_
     exact⟨_,rfl⟩
   ·rw [hm]
    exact⟨_,rfl⟩
 obtain⟨S',this⟩:=this
 exact bG this (by simp only [br,bx,aq]) rfl rfl rfl rfl (uS _)
mutual
noncomputable def dx:Tm→Tm→Bool
 | .mk k n s _ _ _ _ ls ts,b=>(iEq k b.k && iEq n b.n && decide (s=b.s) && iEq (.ofNat (aG (ls.map enc))) (.ofNat (aG (b.ls.map enc))) && iEq (.ofNat (aG (ae ts))) (.ofNat (aG (ae b.ts)))) && (decide (ls=b.ls) && iK ts b.ts)
noncomputable def iK:List Tm→List Tm→Bool
 | [],_=>true
 | t::ts,u::us=>dx t u && iK ts us
 | _::_,[]=>false
end
theorem sS (a b:Tm):dx a b=((iEq a.k b.k && iEq a.n b.n && decide (a.s=b.s) && iEq (.ofNat (aG (a.ls.map enc))) (.ofNat (aG (b.ls.map enc))) && iEq (.ofNat (aG (ae a.ts))) (.ofNat (aG (ae b.ts)))) && (decide (a.ls=b.ls) && iK a.ts b.ts)):=by cases a;rw [dx];rfl
theorem gH {a b:Nat}:iEq (.ofNat a) (.ofNat b)=decide (a=b):=by
 show Nat.beq a b=decide (a=b)
 rw [Bool.eq_iff_iff,Nat.beq_eq,decide_eq_true_eq]
noncomputable def SI:Code:=jr Tryz.f27 0
noncomputable def SJ:Code:=jr Tryz.f27 1
theorem JV (R:Run) (k:Nat) (a b:Tm) (S:St) (K:Ex→Env→St→Prop) (hlen:a.ls.length≤9223372036854775807) :
 ∀(ra rb:List Lv) (j f:Nat),ra.length < f→ra.length=rb.length→(∀i,ra[i]?=a.ls[j + i]?)→(∀i,rb[i]?=b.ls[j + i]?)→j + ra.length=a.ls.length→
 (ra=rb→K (.exit 0) { nt:=81,tmps:=[(2,.ptr (.loc 2) 0),(3,.ptr (.loc 3) 0),(5,.int .i64 (.ofNat a.ls.length)),(48,.bool false)],locs:=[(2,aC a),(3,aC b)],fix:=[] } S)→
 (ra≠rb→K .ret { nt:=81,tmps:=[(4,.bool false)],locs:=[(2,aC a),(3,aC b)],fix:=[] } S)→
 aB (iter (evalCode Tryz.cfg R k 27 (Tryz.cfg.fc 27) SI) f { nt:=81,tmps:=[(2,.ptr (.loc 2) 0),(3,.ptr (.loc 3) 0),(5,.int .i64 (.ofNat j))],locs:=[(2,aC a),(3,aC b)],fix:=[] } S) K
 | [],[],j,f + 1,hf,_,hra,hrb,hj,hK,hN=>by
  have hjl:j=a.ls.length:=by simpa using hj
  subst hjl
  refine aB.round (nt:=81) (fx:=[]) ?_
  refine ah.no (Bf (by omega)) ?_
  exact hK rfl
 | x::ra,y::rb,j,f + 1,hf,he,hra,hrb,hj,hK,hN=>by
  have ha:a.ls[j]?=some x:=by have:=hra 0;simpa using this.symm
  have hb:b.ls[j]?=some y:=by have:=hrb 0;simpa using this.symm
  have hjl:j < a.ls.length:=(aGs ha).1
  refine aB.round (nt:=81) (fx:=[]) ?_
  refine ah.yes (Be hjl) ?_
  refine ab.mk _ (sO ha) ?_
  refine ab.mk _ (sO hb) ?_
  refine ab.mkB (JM x y) (fun h=>?_) (fun h=>?_)
  ·exact hN (fun e=>by cases e;simp at h)
  ·have hxy:x=y:=by simpa using h
   refine ab.mk _ (az (T:=3) (j:=j) (by omega)) ?_
   exact JV R k a b S K hlen ra rb (j + 1) f (by simp only [aLc] at hf;omega) (by simpa using he) (fun i=>by have:=hra (i + 1);simp only [List.getElem?_cons_succ] at this;rw [this];congr 1;omega) (fun i=>by have:=hrb (i + 1);simp only [List.getElem?_cons_succ] at this;rw [this];congr 1;omega) (by simp only [aLc] at hj;omega)
    (fun e=>hK (by rw [e,hxy])) (fun e=>hN (fun e2=>e (by cases e2;rfl)))
 | [],_::_,j,f + 1,_,he,_,_,_,_,_=>by cases he
 | _::_,[],j,f + 1,_,he,_,_,_,_,_=>by cases he
theorem JW (n k:Nat) (a b:Tm) (S:St) (K:Ex→Env→St→Prop) (hlen:a.ts.length < 1000000000)
 (dy:∀y∈a.ts,∀z S,RN n (.f 27) [aH y,aH z] S=some (.bool (dx y z),S)) :
 ∀(ra rb:List Tm) (j f:Nat),ra.length < f→ra.length=rb.length→(∀i,ra[i]?=a.ts[j + i]?)→(∀i,rb[i]?=b.ts[j + i]?)→j + ra.length=a.ts.length→
 (iK ra rb=true→K (.exit 2) { nt:=81,tmps:=[(2,.ptr (.loc 2) 0),(3,.ptr (.loc 3) 0),(6,.int .i64 (.ofNat a.ts.length)),(66,.bool false)],locs:=[(2,aC a),(3,aC b)],fix:=[] } S)→
 (iK ra rb=false→K .ret { nt:=81,tmps:=[(4,.bool false)],locs:=[(2,aC a),(3,aC b)],fix:=[] } S)→
 aB (iter (evalCode Tryz.cfg (RN n) k 27 (Tryz.cfg.fc 27) SJ) f { nt:=81,tmps:=[(2,.ptr (.loc 2) 0),(3,.ptr (.loc 3) 0),(6,.int .i64 (.ofNat j))],locs:=[(2,aC a),(3,aC b)],fix:=[] } S) K
 | [],[],j,f + 1,hf,_,hra,hrb,hj,hK,hN=>by
  have hjl:j=a.ts.length:=by simpa using hj
  subst hjl
  refine aB.round (nt:=81) (fx:=[]) ?_
  refine ah.no (gG (by omega)) ?_
  exact hK (by rw [iK])
 | x::ra,y::rb,j,f + 1,hf,he,hra,hrb,hj,hK,hN=>by
  have ha:a.ts[j]?=some x:=by have:=hra 0;simpa using this.symm
  have hb:b.ts[j]?=some y:=by have:=hrb 0;simpa using this.symm
  have hjl:j < a.ts.length:=(aGs ha).1
  rw [iK] at hK hN
  refine aB.round (nt:=81) (fx:=[]) ?_
  refine ah.yes (gE hjl) ?_
  refine ab.mk _ (bJ ha) ?_
  refine ab.mk _ (bJ hb) ?_
  refine ag.mkB (dy x (aMg ha) y _) (fun h=>?_) (fun h=>?_)
  ·rw [h,Bool.true_and] at hK hN
   refine ab.mk _ (az (T:=3) (j:=j) (by omega)) ?_
   exact JW n k a b S K hlen dy ra rb (j + 1) f (by simp only [aLc] at hf;omega) (by simpa using he) (fun i=>by have:=hra (i + 1);simp only [List.getElem?_cons_succ] at this;rw [this];congr 1;omega) (fun i=>by have:=hrb (i + 1);simp only [List.getElem?_cons_succ] at this;rw [this];congr 1;omega) (by simp only [aLc] at hj;omega) hK hN
  ·exact hN (by rw [h];rfl)
 | [],_::_,j,f + 1,_,he,_,_,_,_,_=>by cases he
 | _::_,[],j,f + 1,_,he,_,_,_,_,_=>by cases he
theorem E7:∀(n:Nat) (a b:Tm) (S:St),Sm a→dW a < 1000000000→wt a < n→RN n (.f 27) [aH a,aH b] S=some (.bool (dx a b),S)
 | 0,a,b,S,_,_,h=>by omega
 | n + 1,a,b,S,hsm,hsz,h=>by
  have hw:=cr a
  have hwl:=hV a.ts
  have hlen:a.ts.length < 1000000000:=by have:=jT a.ts;rw [eM] at hsz;omega
  have:frame Tryz.cfg (RN n) n 27 [aH a,aH b] St.empty=some (.bool (dx a b),St.empty):=by
   refine aL Tryz.cfg _ (fn:=Tryz.f27) rfl rfl ?_
   rw [sS]
   refine ah.mk (fun h1=>?_) (fun h1=>?_)
   ·exact rfB (by simp only [Bool.not_eq_true'] at h1;rw [h1];rfl)
   simp only [Bool.not_eq_false'] at h1
   rw [h1]
   refine ah.mk (fun h2=>?_) (fun h2=>?_)
   ·exact rfB (by simp only [Bool.not_eq_true'] at h2;rw [h2];rfl)
   simp only [Bool.not_eq_false'] at h2
   rw [h2]
   refine ab.mkB re (fun h3=>?_) (fun h3=>?_)
   ·exact rfB (by simp only [Bool.not_eq_true'] at h3;rw [h3];rfl)
   simp only [Bool.not_eq_false'] at h3
   rw [h3]
   refine ah.mk (fun h4=>?_) (fun h4=>?_)
   ·exact rfB (by simp only [Bool.not_eq_true'] at h4;rw [h4];rfl)
   simp only [Bool.not_eq_false'] at h4
   rw [h4]
   refine ah.mk (fun h5=>?_) (fun h5=>?_)
   ·exact rfB (by simp only [Bool.not_eq_true'] at h5;rw [h5];rfl)
   simp only [Bool.not_eq_false'] at h5
   rw [h5]
   rw [gH,decide_eq_true_eq,an,an,aLm,aLm] at h4
   rw [gH,decide_eq_true_eq,al,al] at h5
   refine JV _ n a b _ _ ((gR a).1 hsm).1.1 a.ls b.ls 0 n (by omega) h4 (fun i=>by rw [Nat.zero_add]) (fun i=>by rw [Nat.zero_add]) (by rw [Nat.zero_add]) (fun h6=>?_) (fun h6=>?_)
   ·refine JW n n a b _ _ hlen (fun y hy z S=>E7 n y z S (((gR a).1 hsm).2 y hy) (by have:=sR hy;omega) (by have:=cz hy;omega)) a.ts b.ts 0 n (by omega) h5 (fun i=>by rw [Nat.zero_add]) (fun i=>by rw [Nat.zero_add]) (by rw [Nat.zero_add]) (fun h7=>?_) (fun h7=>?_)
    ·exact rfB (by simp [h6,h7])
    ·exact rfB (by simp [h6,h7])
   ·exact rfB (by simp [h6])
  exact bG this (by simp only [br,aq]) rfl rfl rfl rfl rfl
theorem xr {p:Tm→Bool} {d:Nat}:∀{ts:List Tm} {l r:Nat},dD p ts l d=some r→∀y∈ts,∃l' r',de p y l' d=some r'
 | [],l,r,_,y,hy=>by cases hy
 | t::ts,l,r,h,y,hy=>by
  rw [eJ] at h
  split at h
  ·rename_i l' h1
   cases hy with
   | head=>exact⟨_,_,h1⟩
   | tail _ hy=>exact xr h y hy
  ·cases h
theorem jV {p:Tm→Bool} {x:Tm} {l d r:Nat} (h:de p x l d=some r):∃l' d',l=l' + 1∧d=d' + 1∧p x=true∧dD p x.ts l' d'=some r:=by
 rw [js] at h
 split at h
 ·rename_i l' d'
  split at h
  ·rename_i hp;exact⟨l',d',rfl,rfl,hp,h⟩
  ·cases h
 ·cases h
theorem pR {p:Tm→Bool} {P:Tm→Nat→Prop} (h:∀x d,p x=true→(∀y∈x.ts,P y d)→P x (d + 1)) (x:Tm):∀{l d r:Nat},de p x l d=some r→P x d:=by
 induction x using Tm.ind with
 | h x ih=>
  intro l d r hs
  obtain⟨l',d',rfl,rfl,hp,hts⟩:=jV hs
  refine h x d' hp (fun y hy=>?_)
  obtain⟨l2,r2,h2⟩:=xr hts y hy
  exact ih y hy h2
theorem zy {p:Tm→Bool} (x:Tm):∀{l d r:Nat},de p x l d=some r→r + dW x=l:=by
 induction x using Tm.ind with
 | h x ih=>
  intro l d r hs
  obtain⟨l',d',rfl,rfl,hp,hts⟩:=jV hs
  have key:∀(ts:List Tm),(∀y∈ts,y∈x.ts)→∀{l r},dD p ts l d'=some r→r + gB ts=l:=by
   intro ts
   induction ts with
   | nil=>intro _ l r h;rw [dD] at h;cases h;rw [gB];rfl
   | cons t ts ih2=>
    intro hm l r h
    rw [eJ] at h
    split at h
    ·rename_i l1 h1
     have:=ih t (hm t aMs) h1
     have:=ih2 (fun y hy=>hm y (aMt _ hy)) h
     rw [fR]
     omega
    ·cases h
  have:=key x.ts (fun _ h=>h) hts
  rw [eM]
  omega
theorem Ib {p q:Tm→Bool} (hpq:∀x,p x=true→q x=true) (x:Tm):∀{l d r l2 d2:Nat},de p x l d=some r→l≤l2→d≤d2→de q x l2 d2=some (r + (l2 - l)):=by
 induction x using Tm.ind with
 | h x ih=>
  intro l d r l2 d2 hs hl hd
  obtain⟨l',d',rfl,rfl,hp,hts⟩:=jV hs
  obtain⟨m,rfl⟩ : ∃m,l2=m + 1:=⟨l2 - 1,by omega⟩
  obtain⟨e,rfl⟩ : ∃e,d2=e + 1:=⟨d2 - 1,by omega⟩
  rw [js]
  simp only
  rw [hpq x hp]
  simp only
  have key:∀(ts:List Tm),(∀y∈ts,y∈x.ts)→∀{l r l2},dD p ts l d'=some r→l≤l2→dD q ts l2 e=some (r + (l2 - l)):=by
   intro ts
   induction ts with
   | nil=>intro _ l r l2 h hl;rw [dD] at h ⊢;cases h;congr 1;omega
   | cons t ts ih2=>
    intro hm l r l2 h hl
    rw [eJ] at h ⊢
    split at h
    ·rename_i l1 h1
     have h3:=sP _ _ h1
     have h4:=ih t (hm t aMs) h1 hl (by omega:d'≤e)
     have h5:=ih2 (fun y hy=>hm y (aMt _ hy)) h (by omega:l1≤l1 + (l2 - l))
     rw [h4]
     simp only
     rw [h5]
     congr 1
     omega
    ·cases h
  have:=key x.ts (fun _ h=>h) hts (by omega:l'≤m)
  rw [this]
  congr 1
  omega
theorem kH {x:Tm} (h:cM x=true):∃r,de bh x 65536 4096=some r:=by
 unfold cM at h
 exact Option.isSome_iff_exists.1 h
theorem GM {a b:Nat} (h:a≤b):Nat.ble a b=true:=Nat.ble_eq_true_of_le h
theorem Dq {x:Tm} (h:bh x=true):jt x=true:=by
 unfold bh at h
 simp only [Bool.and_eq_true] at h
 have h1:=h.2.2
 unfold lr at h1
 unfold jt
 have e:∀m:Nat,iEq (.ofNat (aG (x.ls.map enc))) (.ofNat m)=true→x.ls.length=m:=fun m hm=>by
  rw [gH,an,aLm,decide_eq_true_eq] at hm;exact hm
 refine GM ?_
 cases h2:iEq x.k 1 with
 | true=>rw [h2] at h1;have:=e 1 h1;omega
 | false=>
  rw [h2] at h1
  cases h3:iEq x.k 3 with
  | true=>
   rw [h3] at h1
   have h4:Nat.blt 4 (aG (x.ls.map enc))=false:=by
    have h5:(!Nat.blt 4 (aG (x.ls.map enc)))=true:=h1
    simpa using h5
   rw [an,aLm] at h4
   by_cases h6:4 < x.ls.length
   ·rw [dC h6] at h4;cases h4
   ·omega
  | false=>rw [h3] at h1;have:=e 0 h1;omega
theorem jv {x:Tm} (h:cM x=true):dW x≤65536:=by
 obtain⟨r,hr⟩:=kH h
 have:=zy x hr
 omega
theorem qB {x:Tm} (h:mH x=false):dW x≤131072:=by
 unfold mH at h
 cases hs:de jt x 131072 8192 with
 | none=>rw [hs] at h;cases h
 | some r=>have:=zy x hs;omega
def uT (x y:Tm):Prop:=wt y=wt x∧(Sm x→Sm y)∧dW y=dW x
theorem uT.refl (x:Tm):uT x x:=⟨rfl,id,rfl⟩
theorem Dr (x:Tm) (n:Int):uT x (x.xk n):=by
 cases x
 refine⟨?_,?_,?_⟩
 ·rw [cr,cr];rfl
 ·intro h;rw [gR] at h ⊢;exact h
 ·rw [eM,eM];rfl
theorem E8 {σ:Type} {step:σ→Tm→Int→Tm×σ} (hs:∀s x a,uT x (step s x a).1) (x:Tm):∀s a,uT x (dE step x s a).1:=by
 induction x using Tm.ind with
 | h x ih=>
  intro s a
  rw [kG]
  cases h2:iEq x.k 2 with
  | true=>exact hs s x a
  | false=>
   have key:∀(ts:List Tm),(∀y∈ts,y∈x.ts)→∀i s,wts (cG step x.k ts i s a).1=wts ts∧((∀y∈ts,Sm y)→∀y∈(cG step x.k ts i s a).1,Sm y)∧gB (cG step x.k ts i s a).1=gB ts:=by
    intro ts
    induction ts with
    | nil=>intro _ i s;rw [cG];exact⟨rfl,fun h=>h,rfl⟩
    | cons t ts ih2=>
     intro hm i s
     rw [cG]
     obtain⟨a1,a2,a3⟩:=ih t (hm t aMs) s (dv a (aY x.k (.ofNat i)))
     obtain⟨b1,b2,b3⟩:=ih2 (fun y hy=>hm y (aMt _ hy)) (i + 1) (dE step t s (dv a (aY x.k (.ofNat i)))).2
     refine⟨?_,?_,?_⟩
     ·rw [wts,wts,a1,b1]
     ·intro h y hy
      cases hy with
      | head=>exact a2 (h t aMs)
      | tail _ hy=>exact b2 (fun z hz=>h z (aMt _ hz)) y hy
     ·rw [fR,fR,a3,b3]
   obtain⟨k1,k2,k3⟩:=key x.ts (fun _ h=>h) 0 s
   show uT x (x.rf _)
   refine⟨?_,?_,?_⟩
   ·rw [cr,cr x];show 1 + x.s.length + x.ls.length + wts (cG step x.k x.ts 0 s a).1=_;rw [k1]
   ·intro h
    rw [gR] at h ⊢
    exact⟨h.1,k2 h.2⟩
   ·rw [eM,eM x];show 1 + gB (cG step x.k x.ts 0 s a).1=_;rw [k3]
theorem E9 (x:Tm) (a b:Int):uT x (a8 x a b):=E8 (fun s x a=>by
 unfold df
 cases (!iLt x.n a) with
 | true=>exact Dr x _
 | false=>exact uT.refl x) x () a
theorem lH (k i:Int):aY k i=0∨aY k i=1:=by
 unfold aY
 cases ((iEq k 5 || iEq k 6) && iEq i 1)<;>cases (iEq k 7 && iEq i 2)<;>simp
theorem ec {z:Int} (h : -9223372036854775808≤z) (h2:z≤9223372036854775807):ep .i64 z=z:=by
 cases z with
 | ofNat m=>exact xg (by simp) h2
 | negSucc m=>
  show (bif Nat.ble m 9223372036854775807 then Int.negSucc m else _)=_
  rw [show Nat.ble m 9223372036854775807=true from GM (by omega)]
  rfl
theorem Mx {a b:Int} (h : -9223372036854775808≤a + b) (h2:a + b≤9223372036854775807):dv a b=a + b:=ec h h2
theorem Mz {a b:Int} (h : -9223372036854775808≤a - b) (h2:a - b≤9223372036854775807):sQ a b=a - b:=ec h h2
theorem Fa {σ:Type} {f g:σ→Tm→Int→Tm×σ} {B:Int} (hB:B≤9223372036854775807) (hfg:∀s v a,iEq v.k 2=true→bh v=true→0≤a→a≤B→f s v a=g s v a) (x:Tm) {l d r:Nat} (h:de bh x l d=some r) :
 ∀(s:σ) (a:Int),0≤a→a + d≤B→dE f x s a=dE g x s a:=by
 refine pR (P:=fun x d=>∀(s:σ) (a:Int),0≤a→a + d≤B→dE f x s a=dE g x s a) (fun x d hp ih s a h0 hd=>?_) x h
 rw [kG,kG]
 cases h2:iEq x.k 2 with
 | true=>exact hfg s x a h2 hp h0 (by omega)
 | false=>
  have key:∀(ts:List Tm),(∀y∈ts,y∈x.ts)→∀i s,cG f x.k ts i s a=cG g x.k ts i s a:=by
   intro ts
   induction ts with
   | nil=>intro _ i s;rw [cG,cG]
   | cons t ts ih2=>
    intro hm i s
    have hb:=lH x.k (.ofNat i)
    have e:dv a (aY x.k (.ofNat i))=a + aY x.k (.ofNat i):=Mx (by rcases hb with h | h<;>omega) (by rcases hb with h | h<;>omega)
    rw [cG,cG,ih t (hm t aMs) s _ (by rw [e];rcases hb with h | h<;>omega) (by rw [e];rcases hb with h | h<;>omega)]
    rw [ih2 (fun y hy=>hm y (aMt _ hy))]
  rw [key x.ts (fun _ h=>h) 0 s]
  rfl
theorem ny {x:Tm} (h:bh x=true) (h2:iEq x.k 2=true):0≤x.n∧x.n≤1048576:=by
 unfold bh at h
 simp only [Bool.and_eq_true] at h
 have h1:=h.2.1.2
 unfold kU at h1
 rw [h2] at h1
 simp only [cond_true,Bool.and_eq_true,Bool.not_eq_true',sN] at h1
 exact h1
end Go.Ev
