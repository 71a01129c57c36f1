/- Levels and terms: what the functions on them give (own work). -/
import Derived.Test.YtmnofcchfbkbeaaGreatXe
import Derived.Test.YtmnofcchfbkbeaaGreatXL
namespace Go.Ev
open Go.Proofs Go.RowKit
set_option maxRecDepth 100000
set_option linter.unusedSimpArgs false
set_option linter.unusedVariables false
def l9 (R:Run) (b:Nat):List Int→Int→St→St→Prop
 | [],_,S,S'=>S'=S
 | p::ps,i,S,S'=>(iLt p 0=true∧l9 R b ps (i + 1) S S')∨(iLt p 0=false∧∃S1,R (.y b) [.int .i64 i,.int .i64 p] S=some (.bool true,S1)∧l9 R b ps (i + 1) S1 S')∨
  (iLt p 0=false∧R (.y b) [.int .i64 i,.int .i64 p] S=some (.bool false,S'))
noncomputable def AZ:Code→Option Code
 | .seq a b=>match AZ a with | some c=>some c | none=>AZ b
 | .block _ b=>AZ b
 | .loop b=>some b
 | _=>none
noncomputable def CZ:Code:=((Tryz.f205.body).bind AZ).getD .skip
theorem C0 (R:Run) (k m:Nat) (p0 p1 p2 p3:Int) (b:Nat) (S S' : St) (K:Ex→Env→St→Prop) (hK:∀e A,(e=.exit 0∨e=.ret)→K e A S') (h:l9 R b [] 4 S S') :
 aD (iter (evalCode Tryz.cfg R k 205 (Tryz.cfg.fc 205) CZ) (m + 1) { nt:=21,tmps:=[(0,.yield b),(6,.agg [.int .i64 p0,.int .i64 p1,.int .i64 p2,.int .i64 p3]),(7,.int .i64 4)],locs:=[],fix:=[] } S) K:=by
 refine aD.round (nt:=21) (fx:=[]) ?_
 refine ah.no rfl ?_
 have h' : S'=S:=h
 subst h'
 exact hK _ _ (.inl rfl)
theorem C1 (R:Run) (k m:Nat) (p0 p1 p2 p3:Int) (b:Nat) (S S' : St) (K:Ex→Env→St→Prop) (hK:∀e A,(e=.exit 0∨e=.ret)→K e A S') (h:l9 R b [p3] 3 S S') :
 aD (iter (evalCode Tryz.cfg R k 205 (Tryz.cfg.fc 205) CZ) (m + 2) { nt:=21,tmps:=[(0,.yield b),(6,.agg [.int .i64 p0,.int .i64 p1,.int .i64 p2,.int .i64 p3]),(7,.int .i64 3)],locs:=[],fix:=[] } S) K:=by
 refine aD.round (nt:=21) (fx:=[]) ?_
 refine ah.yes rfl ?_
 refine ab.mk _ rfl ?_
 rcases h with⟨h1,h2⟩ | ⟨h1,S1,h2,h3⟩ | ⟨h1,h2⟩
 ·refine ah.no (by rw [h1];rfl) ?_
  refine ab.mk _ rfl ?_
  exact C0 R k m p0 p1 p2 p3 b S S' K hK h2
 ·refine ah.yes (by rw [h1];rfl) ?_
  refine ae.mk _ _ h2 ?_
  refine ab.mk _ rfl ?_
  exact C0 R k m p0 p1 p2 p3 b S1 S' K hK h3
 ·refine ah.yes (by rw [h1];rfl) ?_
  refine ae.mk _ _ h2 ?_
  exact hK _ _ (.inr rfl)
theorem C2 (R:Run) (k m:Nat) (p0 p1 p2 p3:Int) (b:Nat) (S S' : St) (K:Ex→Env→St→Prop) (hK:∀e A,(e=.exit 0∨e=.ret)→K e A S') (h:l9 R b [p2,p3] 2 S S') :
 aD (iter (evalCode Tryz.cfg R k 205 (Tryz.cfg.fc 205) CZ) (m + 3) { nt:=21,tmps:=[(0,.yield b),(6,.agg [.int .i64 p0,.int .i64 p1,.int .i64 p2,.int .i64 p3]),(7,.int .i64 2)],locs:=[],fix:=[] } S) K:=by
 refine aD.round (nt:=21) (fx:=[]) ?_
 refine ah.yes rfl ?_
 refine ab.mk _ rfl ?_
 rcases h with⟨h1,h2⟩ | ⟨h1,S1,h2,h3⟩ | ⟨h1,h2⟩
 ·refine ah.no (by rw [h1];rfl) ?_
  refine ab.mk _ rfl ?_
  exact C1 R k m p0 p1 p2 p3 b S S' K hK h2
 ·refine ah.yes (by rw [h1];rfl) ?_
  refine ae.mk _ _ h2 ?_
  refine ab.mk _ rfl ?_
  exact C1 R k m p0 p1 p2 p3 b S1 S' K hK h3
 ·refine ah.yes (by rw [h1];rfl) ?_
  refine ae.mk _ _ h2 ?_
  exact hK _ _ (.inr rfl)
theorem C3 (R:Run) (k m:Nat) (p0 p1 p2 p3:Int) (b:Nat) (S S' : St) (K:Ex→Env→St→Prop) (hK:∀e A,(e=.exit 0∨e=.ret)→K e A S') (h:l9 R b [p1,p2,p3] 1 S S') :
 aD (iter (evalCode Tryz.cfg R k 205 (Tryz.cfg.fc 205) CZ) (m + 4) { nt:=21,tmps:=[(0,.yield b),(6,.agg [.int .i64 p0,.int .i64 p1,.int .i64 p2,.int .i64 p3]),(7,.int .i64 1)],locs:=[],fix:=[] } S) K:=by
 refine aD.round (nt:=21) (fx:=[]) ?_
 refine ah.yes rfl ?_
 refine ab.mk _ rfl ?_
 rcases h with⟨h1,h2⟩ | ⟨h1,S1,h2,h3⟩ | ⟨h1,h2⟩
 ·refine ah.no (by rw [h1];rfl) ?_
  refine ab.mk _ rfl ?_
  exact C2 R k m p0 p1 p2 p3 b S S' K hK h2
 ·refine ah.yes (by rw [h1];rfl) ?_
  refine ae.mk _ _ h2 ?_
  refine ab.mk _ rfl ?_
  exact C2 R k m p0 p1 p2 p3 b S1 S' K hK h3
 ·refine ah.yes (by rw [h1];rfl) ?_
  refine ae.mk _ _ h2 ?_
  exact hK _ _ (.inr rfl)
theorem Jo (R:Run) (k m:Nat) (p0 p1 p2 p3:Int) (b:Nat) (S S' : St) (K:Ex→Env→St→Prop) (hK:∀e A,(e=.exit 0∨e=.ret)→K e A S') (h:l9 R b [p0,p1,p2,p3] 0 S S') :
 aD (iter (evalCode Tryz.cfg R k 205 (Tryz.cfg.fc 205) CZ) (m + 5) { nt:=21,tmps:=[(0,.yield b),(6,.agg [.int .i64 p0,.int .i64 p1,.int .i64 p2,.int .i64 p3]),(7,.int .i64 0)],locs:=[],fix:=[] } S) K:=by
 refine aD.round (nt:=21) (fx:=[]) ?_
 refine ah.yes rfl ?_
 refine ab.mk _ rfl ?_
 rcases h with⟨h1,h2⟩ | ⟨h1,S1,h2,h3⟩ | ⟨h1,h2⟩
 ·refine ah.no (by rw [h1];rfl) ?_
  refine ab.mk _ rfl ?_
  exact C3 R k m p0 p1 p2 p3 b S S' K hK h2
 ·refine ah.yes (by rw [h1];rfl) ?_
  refine ae.mk _ _ h2 ?_
  refine ab.mk _ rfl ?_
  exact C3 R k m p0 p1 p2 p3 b S1 S' K hK h3
 ·refine ah.yes (by rw [h1];rfl) ?_
  refine ae.mk _ _ h2 ?_
  exact hK _ _ (.inr rfl)
theorem HK (R:Run) (k:Nat) (c p0 p1 p2 p3:Int) (b:Nat) (H:List Blk) (aA:List Nat) (S' : St) (h:l9 R b [p0,p1,p2,p3] 0 { heap:=.cells 51 [.int .i64 c,.int .i64 p0,.int .i64 p1,.int .i64 p2,.int .i64 p3]::H,aA:=aA } S') :
 frame Tryz.cfg R (k + 5) 205 [.yield b,.ptr (.box 0) 0] { heap:=.cells 51 [.int .i64 c,.int .i64 p0,.int .i64 p1,.int .i64 p2,.int .i64 p3]::H,aA:=aA }=some (.tuple [],S'):=by
 refine aO Tryz.cfg R (fn:=Tryz.f205) rfl rfl ?_
 refine Jo R (k + 5) k p0 p1 p2 p3 b _ S' _ ?_ h
 intro e A he
 rcases he with rfl | rfl<;>rfl
structure Lv where
 c:Int
 p0:Int
 p1:Int
 p2:Int
 p3:Int
 deriving DecidableEq
@[reducible] def dX (l:Lv):List V:=[.int .i64 l.c,.int .i64 l.p0,.int .i64 l.p1,.int .i64 l.p2,.int .i64 l.p3]
@[reducible] def enc (l:Lv):V:=.agg (dX l)
@[reducible] def PA:List V:=[.int .i64 0,.int .i64 0,.int .i64 0,.int .i64 0,.int .i64 0]
theorem NY (n:Nat) (l:Lv) (S:St):RN (n + 1) (.f 203) [enc l] S=some (.fn 205 (aH S.heap + 1) [] [.ptr (.box (aH S.heap)) 0],{ S with heap:=cz S.heap [.cells 51 (dX l)] }):=by
 refine bw rfl ?_
 refine aO Tryz.cfg _ (fn:=Tryz.f203) rfl rfl ?_
 rfl
noncomputable def sN:Code→Option (Code×Code)
 | .seq a b=>match sN a with | some c=>some c | none=>sN b
 | .block _ b=>sN b
 | .rangeFunc _ _ x y=>some (x,y)
 | _=>none
noncomputable def ma (fn:Func):Code:=((fn.body.bind sN).getD (.skip,.skip)).1
noncomputable def mb (fn:Func):Code:=((fn.body.bind sN).getD (.skip,.skip)).2
noncomputable def Gj (l:Lv):dD:={ fid:=193,nt:=15,tmps:=[(1,.ptr (.loc 1) 0),(2,.ptr (.loc 2) 0),(6,.fn 205 1 [] [.ptr (.box 0) 0])],locs:=[(1,dX l),(2,PA)],params:=[7,8],assign:=ma Tryz.f193,body:=mb Tryz.f193,st:=.ready,jj:=none }
noncomputable def Lr (l0 l:Lv):St:={ heap:=[.cells 51 (dX l0),.loop (Gj l)],aA:=[] }
noncomputable def uR (p c:Int):Int:=bif iLt p c then c else 0
theorem HL (R:Run) (k:Nat) (l0 l:Lv) (i p:Int):round Tryz.cfg R k 1 [.int .i64 i,.int .i64 p] (Lr l0 l)=some (.bool true,Lr l0 { l with c:=uR p l.c }):=by
 refine fH (r:=Gj l) (nt:=15) (fx:=[1,2]) rfl rfl rfl rfl rfl rfl rfl ?_
 refine ah.mk (fun h=>?_) (fun h=>?_)
 ·have e:uR p l.c=0:=by unfold uR;cases hq:iLt p l.c with | true=>rw [hq] at h;cases h | false=>rfl
  rw [e]
  rfl
 ·have e:uR p l.c=l.c:=by unfold uR;cases hq:iLt p l.c with | true=>rfl | false=>rw [hq] at h;cases h
  rw [e]
  rfl
noncomputable def uS {T:Type} (step:Int→Int→T→T):List Int→Int→T→T
 | [],_,t=>t
 | p::ps,i,t=>uS step ps (i + 1) (bif iLt p 0 then t else step i p t)
theorem oc {R:Run} {b:Nat} {T:Type} (st:T→St) (step:Int→Int→T→T) {p i:Int} {ps:List Int} {t:T} {S' : St}
 (h:R (.y b) [.int .i64 i,.int .i64 p] (st t)=some (.bool true,st (step i p t))) (hn:l9 R b ps (i + 1) (st (bif iLt p 0 then t else step i p t)) S'):l9 R b (p::ps) i (st t) S':=by
 cases hq:iLt p 0 with
 | true=>rw [hq] at hn;exact .inl ⟨hq,hn⟩
 | false=>rw [hq] at hn;exact .inr (.inl ⟨hq,_,h,hn⟩)
theorem Ez {R:Run} {b:Nat} {T:Type} (st:T→St) (step:Int→Int→T→T) {p0 p1 p2 p3:Int} {t:T}
 (h:∀i p t,(i=0∨i=1∨i=2∨i=3)→R (.y b) [.int .i64 i,.int .i64 p] (st t)=some (.bool true,st (step i p t))) :
 l9 R b [p0,p1,p2,p3] 0 (st t) (st (uS step [p0,p1,p2,p3] 0 t)):=by
 refine oc st step (h _ _ _ (by omega)) ?_
 refine oc st step (h _ _ _ (by omega)) ?_
 refine oc st step (h _ _ _ (by omega)) ?_
 refine oc st step (h _ _ _ (by omega)) ?_
 rfl
@[reducible] def Lv.ps (l:Lv):List Int:=[l.p0,l.p1,l.p2,l.p3]
noncomputable def rf (l:Lv):Lv:=uS (fun _ p (l:Lv)=>{ l with c:=uR p l.c }) l.ps 0 l
theorem NZ (n:Nat) (l:Lv) (S:St):RN (n + 7) (.f 193) [enc l] S=some (enc (rf l),S):=by
 refine F8 rfl rfl (v:=enc (rf l)) (S':=?_) ?_ rfl rfl
 rotate_left
 ·refine aO Tryz.cfg _ (fn:=Tryz.f193) rfl rfl ?_
  refine ae.mk _ _ (NY (n + 5) l _) ?_
  refine aD.mk _ _ _ (dR (f:=205) (top:=1) (first:=[]) (cap:=[.ptr (.box 0) 0]) (l:=Gj l) (r:=Gj (rf l)) (S':=Lr l (rf l)) (v:=.tuple []) (by rfl) (by rfl) ?_ (by rfl) (.inl rfl)) ?_
  ·refine bw (n:=n + 5) rfl ?_
   refine HK (RN (n + 5)) n l.c l.p0 l.p1 l.p2 l.p3 1 _ [] _ ?_
   exact Ez (Lr l) (fun _ p (l:Lv)=>{ l with c:=uR p l.c }) (fun i p t _=>fU (HL _ _ l t i p))
  ·rfl
theorem iy {α β:Type} (P:Program) (s:Sem α) (f:α→Sem β):calm P (s >>= f)=(calm P s).bind fun a=>calm P (f a):=by
 induction s with
 | pure a=>rfl
 | program k ih=>exact ih P
 | _=>rfl
theorem tY {α:Type} (P:Program) (a:α):calm P (pure a:Sem α)=some a:=rfl
theorem eq3 (d:Nat) (a b:Int):calm Tryz.prog (Op.equalIn (d + 1) 3 (.int .i64 a) (.int .i64 b))=some (a == b):=rfl
theorem rh {xs:Array Value} {i:Nat} {k:IntKind} {n:Int} (h:xs.toList[i]?=some (.int k n)):calm Tryz.prog (Go.part 3 xs i)=some (.int k n):=by
 unfold Go.part
 rw [iy,show calm Tryz.prog (isAgg 3)=some false from rfl]
 have h' : xs[i]?=some (.int k n):=by simpa using h
 simp [h',tY]
theorem RC (d:Nat) (a0 a1 a2 a3 b0 b1 b2 b3:Int):calm Tryz.prog (Op.equalIn (d + 2) 49 (.agg #[.int .i64 a0,.int .i64 a1,.int .i64 a2,.int .i64 a3]) (.agg #[.int .i64 b0,.int .i64 b1,.int .i64 b2,.int .i64 b3]))=some ((a0 == b0) && ((a1 == b1) && ((a2 == b2) && (a3 == b3)))):=by
 unfold Op.equalIn
 rw [iy,show calm Tryz.prog (underlying 49)=some (.array 4 3) from rfl]
 simp only [Option.bind]
 rw [iy,show calm Tryz.prog (sizeOf 3)=some 1 from rfl]
 simp only [Option.bind,Std.Legacy.Range.forIn_eq_forIn_range',Std.Legacy.Range.size]
 cases h0:(a0 == b0)<;>cases h1:(a1 == b1)<;>cases h2:(a2 == b2)<;>cases h3:(a3 == b3)<;>
 simp [List.range',iy,tY,eq3,rh (xs:=#[Value.int .i64 a0,.int .i64 a1,.int .i64 a2,.int .i64 a3]) (i:=0) rfl,rh (xs:=#[Value.int .i64 a0,.int .i64 a1,.int .i64 a2,.int .i64 a3]) (i:=1) rfl,
  rh (xs:=#[Value.int .i64 a0,.int .i64 a1,.int .i64 a2,.int .i64 a3]) (i:=2) rfl,rh (xs:=#[Value.int .i64 a0,.int .i64 a1,.int .i64 a2,.int .i64 a3]) (i:=3) rfl,
  rh (xs:=#[Value.int .i64 b0,.int .i64 b1,.int .i64 b2,.int .i64 b3]) (i:=0) rfl,rh (xs:=#[Value.int .i64 b0,.int .i64 b1,.int .i64 b2,.int .i64 b3]) (i:=1) rfl,
  rh (xs:=#[Value.int .i64 b0,.int .i64 b1,.int .i64 b2,.int .i64 b3]) (i:=2) rfl,rh (xs:=#[Value.int .i64 b0,.int .i64 b1,.int .i64 b2,.int .i64 b3]) (i:=3) rfl,h0,h1,h2,h3]
theorem N0 (c p0 p1 p2 p3:Int):calm Tryz.prog (Go.part 49 #[.int .i64 c,.int .i64 p0,.int .i64 p1,.int .i64 p2,.int .i64 p3] 1)=some (.agg #[.int .i64 p0,.int .i64 p1,.int .i64 p2,.int .i64 p3]):=rfl
theorem PB (a b:Lv):calm Tryz.prog (Op.equal 51 (.agg #[.int .i64 a.c,.int .i64 a.p0,.int .i64 a.p1,.int .i64 a.p2,.int .i64 a.p3]) (.agg #[.int .i64 b.c,.int .i64 b.p0,.int .i64 b.p1,.int .i64 b.p2,.int .i64 b.p3]))=some (decide (a=b)):=by
 have hd:decide (a=b)=((a.c == b.c) && ((a.p0 == b.p0) && ((a.p1 == b.p1) && ((a.p2 == b.p2) && (a.p3 == b.p3))))):=by
  cases a;cases b
  rw [Bool.eq_iff_iff]
  simp
 rw [hd]
 unfold Op.equal Op.maxDepth Op.equalIn
 rw [iy,show calm Tryz.prog (underlying 51)=some (.struct #[{ name:="C",type:=3,offset:=0,embedded:=false,tag:="",pkgPath:="",byteOffset:=0 },{ name:="P",type:=49,offset:=1,embedded:=false,tag:="",pkgPath:="",byteOffset:=8 }]) from rfl]
 simp only [Option.bind]
 rw [iy,show calm Tryz.prog program=some Tryz.prog from rfl]
 simp only [Option.bind,show Tryz.prog.stoodInHeld 51=false by kernel_rfl]
 cases h0:(a.c == b.c)<;>cases h1:((a.p0 == b.p0) && ((a.p1 == b.p1) && ((a.p2 == b.p2) && (a.p3 == b.p3))))<;>
 simp [iy,tY,eq3,RC,N0,rh (xs:=#[Value.int .i64 a.c,.int .i64 a.p0,.int .i64 a.p1,.int .i64 a.p2,.int .i64 a.p3]) (i:=0) rfl,
  rh (xs:=#[Value.int .i64 b.c,.int .i64 b.p0,.int .i64 b.p1,.int .i64 b.p2,.int .i64 b.p3]) (i:=0) rfl,h0,h1]
theorem PC (a b:Lv):binOp Tryz.cfg .eql 51 (enc a) (enc b)=some (.bool (decide (a=b))):=by
 have e:calm Tryz.cfg.prog (do eqGuard .eql 51 (.tmp 0) (.tmp 0) (.agg ⟨[Value.int .i64 a.c,.int .i64 a.p0,.int .i64 a.p1,.int .i64 a.p2,.int .i64 a.p3]⟩) (.agg ⟨[Value.int .i64 b.c,.int .i64 b.p0,.int .i64 b.p1,.int .i64 b.p2,.int .i64 b.p3]⟩);Op.equal 51 (.agg ⟨[Value.int .i64 a.c,.int .i64 a.p0,.int .i64 a.p1,.int .i64 a.p2,.int .i64 a.p3]⟩) (.agg ⟨[Value.int .i64 b.c,.int .i64 b.p0,.int .i64 b.p1,.int .i64 b.p2,.int .i64 b.p3]⟩))=some (decide (a=b)):=by
  rw [iy,show calm Tryz.cfg.prog (eqGuard .eql 51 (.tmp 0) (.tmp 0) (.agg ⟨[Value.int .i64 a.c,.int .i64 a.p0,.int .i64 a.p1,.int .i64 a.p2,.int .i64 a.p3]⟩) (.agg ⟨[Value.int .i64 b.c,.int .i64 b.p0,.int .i64 b.p1,.int .i64 b.p2,.int .i64 b.p3]⟩))=some () by kernel_rfl]
  exact PB a b
 show (match Tryz.cfg.ti 51,calm Tryz.cfg.prog _ with
  | some _,some b=>some (V.bool b)
  | _,_=>none)=_
 rw [e]
 rfl
theorem Jq (a b:Lv):binOp Tryz.cfg .neq 51 (enc a) (enc b)=some (.bool (!decide (a=b))):=by
 have e:calm Tryz.cfg.prog (do eqGuard .neq 51 (.tmp 0) (.tmp 0) (.agg ⟨[Value.int .i64 a.c,.int .i64 a.p0,.int .i64 a.p1,.int .i64 a.p2,.int .i64 a.p3]⟩) (.agg ⟨[Value.int .i64 b.c,.int .i64 b.p0,.int .i64 b.p1,.int .i64 b.p2,.int .i64 b.p3]⟩);Op.equal 51 (.agg ⟨[Value.int .i64 a.c,.int .i64 a.p0,.int .i64 a.p1,.int .i64 a.p2,.int .i64 a.p3]⟩) (.agg ⟨[Value.int .i64 b.c,.int .i64 b.p0,.int .i64 b.p1,.int .i64 b.p2,.int .i64 b.p3]⟩))=some (decide (a=b)):=by
  rw [iy,show calm Tryz.cfg.prog (eqGuard .neq 51 (.tmp 0) (.tmp 0) (.agg ⟨[Value.int .i64 a.c,.int .i64 a.p0,.int .i64 a.p1,.int .i64 a.p2,.int .i64 a.p3]⟩) (.agg ⟨[Value.int .i64 b.c,.int .i64 b.p0,.int .i64 b.p1,.int .i64 b.p2,.int .i64 b.p3]⟩))=some () by kernel_rfl]
  exact PB a b
 show (match Tryz.cfg.ti 51,calm Tryz.cfg.prog _ with
  | some _,some b=>some (V.bool (!b))
  | _,_=>none)=_
 rw [e]
 rfl
@[reducible] def TOP:Int:=1099511627776
noncomputable def okP (p:Int):Bool:=!iLt p (-1) && !iLt TOP p
noncomputable def eN (l:Lv):Bool:=!iLt l.c 0 && (!iLt TOP l.c && (okP l.p0 && (okP l.p1 && (okP l.p2 && (okP l.p3 && decide (rf l=l))))))
theorem HM (n:Nat) (l:Lv):frame Tryz.cfg (RN (n + 7)) (n + 7) 168 [enc l] St.empty=some (.bool (eN l),St.empty):=by
 refine aO Tryz.cfg _ (fn:=Tryz.f168) rfl rfl ?_
 refine ah.mk (fun a1=>?_) (fun a1=>?_)
 ·rw [show eN l=false by simp [eN,okP, *]];rfl
 refine ah.mk (fun a2=>?_) (fun a2=>?_)
 ·rw [show eN l=false by simp [eN,okP, *]];rfl
 refine aD.round (nt:=29) (fx:=[]) ?_
 refine ah.yes rfl ?_
 refine ab.mk _ rfl ?_
 refine ah.mk (fun b0=>?_) (fun b0=>?_)
 ·rw [show eN l=false by simp [eN,okP, *]];rfl
 refine ah.mk (fun c0=>?_) (fun c0=>?_)
 ·rw [show eN l=false by simp [eN,okP, *]];rfl
 refine ab.mk _ rfl ?_
 refine aD.round (nt:=29) (fx:=[]) ?_
 refine ah.yes rfl ?_
 refine ab.mk _ rfl ?_
 refine ah.mk (fun b1=>?_) (fun b1=>?_)
 ·rw [show eN l=false by simp [eN,okP, *]];rfl
 refine ah.mk (fun c1=>?_) (fun c1=>?_)
 ·rw [show eN l=false by simp [eN,okP, *]];rfl
 refine ab.mk _ rfl ?_
 refine aD.round (nt:=29) (fx:=[]) ?_
 refine ah.yes rfl ?_
 refine ab.mk _ rfl ?_
 refine ah.mk (fun b2=>?_) (fun b2=>?_)
 ·rw [show eN l=false by simp [eN,okP, *]];rfl
 refine ah.mk (fun c2=>?_) (fun c2=>?_)
 ·rw [show eN l=false by simp [eN,okP, *]];rfl
 refine ab.mk _ rfl ?_
 refine aD.round (nt:=29) (fx:=[]) ?_
 refine ah.yes rfl ?_
 refine ab.mk _ rfl ?_
 refine ah.mk (fun b3=>?_) (fun b3=>?_)
 ·rw [show eN l=false by simp [eN,okP, *]];rfl
 refine ah.mk (fun c3=>?_) (fun c3=>?_)
 ·rw [show eN l=false by simp [eN,okP, *]];rfl
 refine ab.mk _ rfl ?_
 refine aD.round (nt:=29) (fx:=[]) ?_
 refine ah.no rfl ?_
 refine ae.mk _ _ (NZ n l _) ?_
 refine ab.mk _ (PC _ _) ?_
 rw [show eN l=decide (rf l=l) by simp [eN,okP, *]]
 rfl
theorem N1 (n:Nat) (l:Lv) (S:St):RN (n + 8) (.f 168) [enc l] S=some (.bool (eN l),S):=
 iE (HM n l) rfl rfl rfl rfl rfl
noncomputable def HN:Lv:=⟨0,0,0,0,0⟩
@[reducible] def Ls (r:Lv×Int):V:=.tuple [enc r.1,.int .i64 r.2]
noncomputable def Lv.set (i v:Int) (l:Lv):Lv:=bif iEq i 0 then { l with p0:=v } else bif iEq i 1 then { l with p1:=v } else bif iEq i 2 then { l with p2:=v } else { l with p3:=v }
noncomputable def Lv.get (i:Int) (l:Lv):Int:=bif iEq i 0 then l.p0 else bif iEq i 1 then l.p1 else bif iEq i 2 then l.p2 else l.p3
@[reducible] def xb:Lv:=⟨0,-1,-1,-1,-1⟩
theorem N2 (n:Nat) (S:St):RN (n + 6) (.f 59) [] S=some (enc xb,S):=
 iE (v:=enc xb) (S':=St.empty) (aO Tryz.cfg _ (fn:=Tryz.f59) rfl rfl (by
  iterate 4
   refine aD.round (nt:=10) (fx:=[]) ?_
   refine ah.yes rfl ?_
   refine ab.mk _ rfl ?_
   refine ab.mk _ rfl ?_
  refine aD.round (nt:=10) (fx:=[]) ?_
  refine ah.no rfl ?_
  rfl)) rfl rfl rfl rfl rfl
noncomputable def aP (i:Int):Lv×Int:=bif iLt i 0 || !iLt i 4 then (HN,1) else (xb.set i 0,0)
theorem A7 {a b:Int}:iLt a b=true↔a < b:=by rw [cm];simp
theorem sO {a b:Int}:iLt a b=false↔b≤a:=by rw [cm];simp
theorem HO (n:Nat) (i:Int):frame Tryz.cfg (RN (n + 6)) (n + 6) 18 [.int .i64 i] St.empty=some (Ls (aP i),St.empty):=by
 refine aO Tryz.cfg _ (fn:=Tryz.f18) rfl rfl ?_
 refine ae.mk _ _ (N2 n _) ?_
 refine ah.mk (fun h=>?_) (fun h=>?_)
 ·rw [show aP i=(HN,1) by simp [aP,h]];rfl
 ·refine ah.mk (fun h2=>?_) (fun h2=>?_)
  ·rw [show aP i=(HN,1) by simp [aP,h2]];rfl
  ·have h3:=sO.1 h
   have h4:i < 4:=A7.1 (by simpa using h2)
   have h5:i=0∨i=1∨i=2∨i=3:=by omega
   rcases h5 with rfl | rfl | rfl | rfl<;>(refine ab.mk _ rfl ?_;rfl)
theorem N3 (n:Nat) (i:Int) (S:St):RN (n + 7) (.f 18) [.int .i64 i] S=some (Ls (aP i),S):=iE (HO n i) rfl rfl rfl rfl rfl
def Vd (l:Lv):Prop:=0≤l.c∧l.c≤TOP∧(-1≤l.p0∧l.p0≤TOP)∧(-1≤l.p1∧l.p1≤TOP)∧(-1≤l.p2∧l.p2≤TOP)∧(-1≤l.p3∧l.p3≤TOP)∧
 (l.c=0∨(l.p0 < l.c∧l.p1 < l.c∧l.p2 < l.c∧l.p3 < l.c))
theorem Lt {p:Int}:okP p=true↔-1≤p∧p≤TOP:=by
 unfold okP
 rw [cm,cm]
 simp
theorem Jr {α:Type} (b:Bool) (x y:α):(bif b then x else y)=if b=true then x else y:=by cases b<;>rfl
noncomputable def fs (p c:Int):Int:=if p < 0 then c else if p < c then c else 0
theorem C4 (l:Lv):rf l={ l with c:=fs l.p3 (fs l.p2 (fs l.p1 (fs l.p0 l.c))) }:=by
 unfold rf uS uS uS uS uS fs uR
 simp only [cm,Jr,decide_eq_true_eq]
 split<;>split<;>split<;>split<;>rfl
theorem N4 {l:Lv} (hc:0≤l.c):(rf l).c=if l.c≤l.p0∨l.c≤l.p1∨l.c≤l.p2∨l.c≤l.p3 then 0 else l.c:=by
 rw [C4]
 show fs l.p3 (fs l.p2 (fs l.p1 (fs l.p0 l.c)))=_
 unfold fs
 repeat' split
 all_goals first | rfl | omega
theorem Lv.ext' {a b:Lv} (h:a.c=b.c) (h0:a.p0=b.p0) (h1:a.p1=b.p1) (h2:a.p2=b.p2) (h3:a.p3=b.p3):a=b:=by
 cases a;cases b;simp_all
theorem xd {l:Lv} (hc:0≤l.c):rf l=l↔(l.c=0∨(l.p0 < l.c∧l.p1 < l.c∧l.p2 < l.c∧l.p3 < l.c)):=by
 have h:=N4 hc
 constructor
 ·intro e
  rw [e] at h
  split at h<;>omega
 ·intro e
  refine Lv.ext' ?_ ?_ ?_ ?_ ?_
  ·rw [h];split<;>omega
  all_goals rw [C4]
theorem Js {l:Lv}:eN l=true↔Vd l:=by
 unfold eN Vd
 simp only [Bool.and_eq_true,Lt,Bool.not_eq_true',sO,decide_eq_true_eq]
 constructor
 ·rintro⟨h1,h2,h3,h4,h5,h6,h7⟩
  exact⟨h1,h2,h3,h4,h5,h6,(xd h1).1 h7⟩
 ·rintro⟨h1,h2,h3,h4,h5,h6,h7⟩
  exact⟨h1,h2,h3,h4,h5,h6,(xd h1).2 h7⟩
theorem xe {n:Int} (h:0≤n) (h2:n≤9223372036854775807):eH .i64 n=n:=by
 cases n with
 | ofNat m=>
  show (bif Nat.ble m 9223372036854775807 then Int.ofNat m else _)=_
  rw [show Nat.ble m 9223372036854775807=true from Nat.ble_eq_true_of_le (by simp only [aOn] at h2;omega)]
  rfl
 | negSucc m=>omega
@[reducible] def RD (tok:Tok) (bys:List Lv):V:=.list 5 tok 0 (bys.map enc)
noncomputable def qv:Code→List Code
 | .seq a b=>qv a++qv b
 | .block _ b=>qv b
 | .loop b=>[b]
 | _=>[]
noncomputable def jP (fn:Func) (j:Nat):Code:=(((fn.body.map qv).getD [])[j]?).getD .skip
theorem Gk {tok:Tok} {bys:List Lv} {j:Nat} {b:Lv} (h:bys[j]?=some b):indexAddr Tryz.cfg 22 (RD tok bys) (.int .i64 (.ofNat j))=some (.imm 0 (dX b)):=by
 have hj:j < bys.length:=(aGs h).1
 show (match below (.int .i64 (.ofNat j)) (aH (bys.map enc)) with
  | some i=>match nth (bys.map enc) i with
   | some r=>bif Nat.beq 5 5 then some (V.imm 0 r.cells) else none
   | none=>none
  | none=>none)=_
 have e1:below (.int .i64 (.ofNat j)) (aH (bys.map enc))=some j:=by
  unfold below
  rw [aq,aLm]
  show (bif Nat.blt j bys.length then some j else none)=some j
  rw [show Nat.blt j bys.length=true by rw [Nat.blt_eq];exact hj]
  rfl
 rw [e1]
 simp only
 rw [bS,List.getElem?_map,h]
 rfl
theorem az {T j:Nat} (h:j < 9223372036854775807):binOp Tryz.cfg .add T (.int .i64 (.ofNat j)) (.int .i64 1)=some (.int .i64 (.ofNat (j + 1))):=by
 show some (V.int .i64 (bif Nat.ble (j + 1) 9223372036854775807 then Int.ofNat (j + 1) else _))=_
 rw [show Nat.ble (j + 1) 9223372036854775807=true from Nat.ble_eq_true_of_le h]
 rfl
noncomputable def C5:Code→Bool
 | .seq _ b=>C5 b
 | .block _ (.loop _)=>true
 | _=>false
noncomputable def zr:Code→Option Code
 | .seq a b=>match C5 a with
  | true=>some b
  | false=>zr b
 | _=>none
theorem N5 (n:Nat) (S:St):RN (n + 1) (.f 68) [] S=some (enc xb,S):=
 iE (v:=enc xb) (S':=St.empty) (aO Tryz.cfg _ (fn:=Tryz.f68) rfl rfl rfl) rfl rfl rfl rfl rfl
theorem HP (n:Nat) (i:Int):frame Tryz.cfg (RN (n + 1)) (n + 1) 22 [.int .i64 i] St.empty=some (Ls (aP i),St.empty):=by
 refine aO Tryz.cfg _ (fn:=Tryz.f22) rfl rfl ?_
 refine ah.mk (fun h=>?_) (fun h=>?_)
 ·rw [show aP i=(HN,1) by simp [aP,h]];rfl
 ·refine ah.mk (fun h2=>?_) (fun h2=>?_)
  ·rw [show aP i=(HN,1) by simp [aP,h2]];rfl
  ·have h3:=sO.1 h
   have h4:i < 4:=A7.1 (by simpa using h2)
   have h5:i=0∨i=1∨i=2∨i=3:=by omega
   refine ae.mk _ _ (N5 n _) ?_
   rcases h5 with rfl | rfl | rfl | rfl<;>(refine ab.mk _ rfl ?_;rfl)
theorem N6 (n:Nat) (i:Int) (S:St):RN (n + 2) (.f 22) [.int .i64 i] S=some (Ls (aP i),S):=iE (HP n i) rfl rfl rfl rfl rfl
noncomputable def okR (c p:Int):Bool:=!iLt p (-1) && (!iLt TOP p && !(!iLt p c && (!iLt p 0 && iLt 0 c)))
noncomputable def pQ (l:Lv):Bool:=!iLt l.c 0 && (!iLt TOP l.c && (okR l.c l.p0 && (okR l.c l.p1 && (okR l.c l.p2 && okR l.c l.p3))))
noncomputable def C6:Code:=jP Tryz.f142 0
theorem Lu (R:Run) (k j:Nat) (l:Lv) (S:St) (K:Ex→Env→St→Prop) (hx:okR l.c l.p0=false→K .ret { nt:=49,tmps:=[(2,.bool false)],locs:=[(1,dX l)],fix:=[] } S)
 (hn:okR l.c l.p0=true→aD (iter (evalCode Tryz.cfg R k 142 (Tryz.cfg.fc 142) C6) j { nt:=49,tmps:=[(1,.ptr (.loc 1) 0),(3,.int .i64 1)],locs:=[(1,dX l)],fix:=[] } S) K) :
 aD (iter (evalCode Tryz.cfg R k 142 (Tryz.cfg.fc 142) C6) (j + 1) { nt:=49,tmps:=[(1,.ptr (.loc 1) 0),(3,.int .i64 0)],locs:=[(1,dX l)],fix:=[] } S) K:=by
 refine aD.round (nt:=49) (fx:=[]) ?_
 refine ah.yes rfl ?_
 refine ab.mk _ rfl ?_
 refine ah.mk (fun h1=>?_) (fun h1=>?_)
 ·exact hx (by simp [okR,h1])
 refine ab.mk _ rfl ?_
 refine ah.mk (fun h2=>?_) (fun h2=>?_)
 ·exact hx (by simp [okR,h2])
 refine ab.mk _ rfl ?_
 refine ah.mk (fun h3=>?_) (fun h3=>?_)
 ·refine ab.mk _ rfl ?_
  refine ah.mk (fun h4=>?_) (fun h4=>?_)
  ·refine ah.mk (fun h5=>?_) (fun h5=>?_)
   ·exact hx (by simp at h3 h4;simp [okR,h3,h4,h5])
   ·refine ab.mk _ rfl ?_
    exact hn (by simp [okR,h1,h2,h5])
  ·refine ab.mk _ rfl ?_
   exact hn (by simp at h4;simp [okR,h1,h2,h4])
 ·refine ab.mk _ rfl ?_
  exact hn (by simp at h3;simp [okR,h1,h2,h3])
theorem Lw (R:Run) (k j:Nat) (l:Lv) (S:St) (K:Ex→Env→St→Prop) (hx:okR l.c l.p1=false→K .ret { nt:=49,tmps:=[(2,.bool false)],locs:=[(1,dX l)],fix:=[] } S)
 (hn:okR l.c l.p1=true→aD (iter (evalCode Tryz.cfg R k 142 (Tryz.cfg.fc 142) C6) j { nt:=49,tmps:=[(1,.ptr (.loc 1) 0),(3,.int .i64 2)],locs:=[(1,dX l)],fix:=[] } S) K) :
 aD (iter (evalCode Tryz.cfg R k 142 (Tryz.cfg.fc 142) C6) (j + 1) { nt:=49,tmps:=[(1,.ptr (.loc 1) 0),(3,.int .i64 1)],locs:=[(1,dX l)],fix:=[] } S) K:=by
 refine aD.round (nt:=49) (fx:=[]) ?_
 refine ah.yes rfl ?_
 refine ab.mk _ rfl ?_
 refine ah.mk (fun h1=>?_) (fun h1=>?_)
 ·exact hx (by simp [okR,h1])
 refine ab.mk _ rfl ?_
 refine ah.mk (fun h2=>?_) (fun h2=>?_)
 ·exact hx (by simp [okR,h2])
 refine ab.mk _ rfl ?_
 refine ah.mk (fun h3=>?_) (fun h3=>?_)
 ·refine ab.mk _ rfl ?_
  refine ah.mk (fun h4=>?_) (fun h4=>?_)
  ·refine ah.mk (fun h5=>?_) (fun h5=>?_)
   ·exact hx (by simp at h3 h4;simp [okR,h3,h4,h5])
   ·refine ab.mk _ rfl ?_
    exact hn (by simp [okR,h1,h2,h5])
  ·refine ab.mk _ rfl ?_
   exact hn (by simp at h4;simp [okR,h1,h2,h4])
 ·refine ab.mk _ rfl ?_
  exact hn (by simp at h3;simp [okR,h1,h2,h3])
theorem Lx (R:Run) (k j:Nat) (l:Lv) (S:St) (K:Ex→Env→St→Prop) (hx:okR l.c l.p2=false→K .ret { nt:=49,tmps:=[(2,.bool false)],locs:=[(1,dX l)],fix:=[] } S)
 (hn:okR l.c l.p2=true→aD (iter (evalCode Tryz.cfg R k 142 (Tryz.cfg.fc 142) C6) j { nt:=49,tmps:=[(1,.ptr (.loc 1) 0),(3,.int .i64 3)],locs:=[(1,dX l)],fix:=[] } S) K) :
 aD (iter (evalCode Tryz.cfg R k 142 (Tryz.cfg.fc 142) C6) (j + 1) { nt:=49,tmps:=[(1,.ptr (.loc 1) 0),(3,.int .i64 2)],locs:=[(1,dX l)],fix:=[] } S) K:=by
 refine aD.round (nt:=49) (fx:=[]) ?_
 refine ah.yes rfl ?_
 refine ab.mk _ rfl ?_
 refine ah.mk (fun h1=>?_) (fun h1=>?_)
 ·exact hx (by simp [okR,h1])
 refine ab.mk _ rfl ?_
 refine ah.mk (fun h2=>?_) (fun h2=>?_)
 ·exact hx (by simp [okR,h2])
 refine ab.mk _ rfl ?_
 refine ah.mk (fun h3=>?_) (fun h3=>?_)
 ·refine ab.mk _ rfl ?_
  refine ah.mk (fun h4=>?_) (fun h4=>?_)
  ·refine ah.mk (fun h5=>?_) (fun h5=>?_)
   ·exact hx (by simp at h3 h4;simp [okR,h3,h4,h5])
   ·refine ab.mk _ rfl ?_
    exact hn (by simp [okR,h1,h2,h5])
  ·refine ab.mk _ rfl ?_
   exact hn (by simp at h4;simp [okR,h1,h2,h4])
 ·refine ab.mk _ rfl ?_
  exact hn (by simp at h3;simp [okR,h1,h2,h3])
theorem Ly (R:Run) (k j:Nat) (l:Lv) (S:St) (K:Ex→Env→St→Prop) (hx:okR l.c l.p3=false→K .ret { nt:=49,tmps:=[(2,.bool false)],locs:=[(1,dX l)],fix:=[] } S)
 (hn:okR l.c l.p3=true→aD (iter (evalCode Tryz.cfg R k 142 (Tryz.cfg.fc 142) C6) j { nt:=49,tmps:=[(1,.ptr (.loc 1) 0),(3,.int .i64 4)],locs:=[(1,dX l)],fix:=[] } S) K) :
 aD (iter (evalCode Tryz.cfg R k 142 (Tryz.cfg.fc 142) C6) (j + 1) { nt:=49,tmps:=[(1,.ptr (.loc 1) 0),(3,.int .i64 3)],locs:=[(1,dX l)],fix:=[] } S) K:=by
 refine aD.round (nt:=49) (fx:=[]) ?_
 refine ah.yes rfl ?_
 refine ab.mk _ rfl ?_
 refine ah.mk (fun h1=>?_) (fun h1=>?_)
 ·exact hx (by simp [okR,h1])
 refine ab.mk _ rfl ?_
 refine ah.mk (fun h2=>?_) (fun h2=>?_)
 ·exact hx (by simp [okR,h2])
 refine ab.mk _ rfl ?_
 refine ah.mk (fun h3=>?_) (fun h3=>?_)
 ·refine ab.mk _ rfl ?_
  refine ah.mk (fun h4=>?_) (fun h4=>?_)
  ·refine ah.mk (fun h5=>?_) (fun h5=>?_)
   ·exact hx (by simp at h3 h4;simp [okR,h3,h4,h5])
   ·refine ab.mk _ rfl ?_
    exact hn (by simp [okR,h1,h2,h5])
  ·refine ab.mk _ rfl ?_
   exact hn (by simp at h4;simp [okR,h1,h2,h4])
 ·refine ab.mk _ rfl ?_
  exact hn (by simp at h3;simp [okR,h1,h2,h3])
theorem HQ (R:Run) (n:Nat) (l:Lv):frame Tryz.cfg R (n + 5) 142 [enc l] St.empty=some (.bool (pQ l),St.empty):=by
 refine aO Tryz.cfg _ (fn:=Tryz.f142) rfl rfl ?_
 refine ah.mk (fun a1=>?_) (fun a1=>?_)
 ·rw [show pQ l=false by simp [pQ,a1]];rfl
 refine ah.mk (fun a2=>?_) (fun a2=>?_)
 ·rw [show pQ l=false by simp [pQ,a2]];rfl
 refine Lu R _ _ l _ _ (fun h=>?_) (fun h0=>?_)
 ·rw [show pQ l=false by simp [pQ,h]];rfl
 refine Lw R _ _ l _ _ (fun h=>?_) (fun h1=>?_)
 ·rw [show pQ l=false by simp [pQ,h]];rfl
 refine Lx R _ _ l _ _ (fun h=>?_) (fun h2=>?_)
 ·rw [show pQ l=false by simp [pQ,h]];rfl
 refine Ly R _ _ l _ _ (fun h=>?_) (fun h3=>?_)
 ·rw [show pQ l=false by simp [pQ,h]];rfl
 refine aD.round (nt:=49) (fx:=[]) ?_
 refine ah.no rfl ?_
 rw [show pQ l=true by simp [pQ, *]]
 rfl
theorem Lz (l:Lv):pQ l=eN l:=by
 rw [Bool.eq_iff_iff,Js]
 unfold pQ okR Vd
 simp only [Bool.and_eq_true,Bool.not_eq_true',sO,Bool.and_eq_false_iff,Bool.not_eq_false',A7]
 constructor
 ·rintro⟨h1,h2,⟨a1,a2,a3⟩,⟨b1,b2,b3⟩,⟨c1,c2,c3⟩,d1,d2,d3⟩
  exact⟨h1,h2,⟨a1,a2⟩,⟨b1,b2⟩,⟨c1,c2⟩,⟨d1,d2⟩,by omega⟩
 ·rintro⟨h1,h2,⟨a1,a2⟩,⟨b1,b2⟩,⟨c1,c2⟩,⟨d1,d2⟩,h⟩
  exact⟨h1,h2,⟨a1,a2,by omega⟩,⟨b1,b2,by omega⟩,⟨c1,c2,by omega⟩,d1,d2,by omega⟩
theorem N7 (n:Nat) (l:Lv) (S:St):RN (n + 6) (.f 142) [enc l] S=some (.bool (eN l),S):=by
 rw [← Lz]
 exact iE (HQ _ n l) rfl rfl rfl rfl rfl
inductive Tm where
 | mk (k n:Int) (s:List UInt8) (a b c d:Bool) (ls:List Lv) (ts:List Tm)
noncomputable def Tm.k:Tm→Int | .mk k _ _ _ _ _ _ _ _=>k
noncomputable def Tm.n:Tm→Int | .mk _ n _ _ _ _ _ _ _=>n
noncomputable def Tm.s:Tm→List UInt8 | .mk _ _ s _ _ _ _ _ _=>s
noncomputable def Tm.a:Tm→Bool | .mk _ _ _ a _ _ _ _ _=>a
noncomputable def Tm.b:Tm→Bool | .mk _ _ _ _ b _ _ _ _=>b
noncomputable def Tm.c:Tm→Bool | .mk _ _ _ _ _ c _ _ _=>c
noncomputable def Tm.d:Tm→Bool | .mk _ _ _ _ _ _ d _ _=>d
noncomputable def Tm.ls:Tm→List Lv | .mk _ _ _ _ _ _ _ ls _=>ls
noncomputable def Tm.ts:Tm→List Tm | .mk _ _ _ _ _ _ _ _ ts=>ts
noncomputable def ao {α:Type} (a:Bool):List α→Nat
 | []=>match a with | true=>5 | false=>0
 | _::_=>5
noncomputable def aw (b:Bool):Tok:=match b with | true=>.tight | false=>.no
mutual
noncomputable def N8:Tm→V
 | .mk k n s a b c d ls ts=>.agg [.int .u8 k,.int .i64 n,.str s,.list (ao a ls) (aw b) 0 (ls.map enc),.list (ao c ts) (aw d) 0 (ag ts)]
noncomputable def ag:List Tm→List V
 | []=>[]
 | t::ts=>N8 t::ag ts
end
@[reducible] noncomputable def aC (x:Tm):List V:=[.int .u8 x.k,.int .i64 x.n,.str x.s,.list (ao x.a x.ls) (aw x.b) 0 (x.ls.map enc),.list (ao x.c x.ts) (aw x.d) 0 (ag x.ts)]
@[reducible] noncomputable def aB (x:Tm):V:=.agg (aC x)
theorem LA (x:Tm):N8 x=aB x:=by cases x;rw [N8];rfl
theorem cZ (ts:List Tm):ag ts=ts.map aB:=by
 induction ts with
 | nil=>rw [ag];rfl
 | cons t ts ih=>rw [ag,ih,LA];rfl
theorem ak (ts:List Tm):aH (ag ts)=ts.length:=by rw [cZ,aq,aLm]
mutual
def wt:Tm→Nat
 | .mk _ _ s _ _ _ _ ls ts=>1 + s.length + ls.length + wts ts
def wts:List Tm→Nat
 | []=>0
 | t::ts=>1 + wt t + wts ts
end
theorem cO (x:Tm):wt x=1 + x.s.length + x.ls.length + wts x.ts:=by cases x;rw [wt];rfl
theorem iz (ts:List Tm):ts.length≤wts ts:=by
 induction ts with
 | nil=>simp
 | cons t ts ih=>rw [wts];simp only [aLc];omega
theorem LB {x:Tm} {ts:List Tm} (h:x∈ts):wt x < wts ts:=by
 induction ts with
 | nil=>cases h
 | cons t ts ih=>
  rw [wts]
  cases h with
  | head=>omega
  | tail _ h=>have:=ih h;omega
theorem cT {x y:Tm} (h:x∈y.ts):wt x < wt y:=by rw [cO y];have:=LB h;omega
theorem Tm.ind {p:Tm→Prop} (h:∀x,(∀y∈x.ts,p y)→p x) (x:Tm):p x:=by
 have:∀n,∀x,wt x < n→p x:=by
  intro n
  induction n with
  | zero=>intro x hx;omega
  | succ n ih=>intro x hx;exact h x (fun y hy=>ih y (by have:=cT hy;omega))
 exact this _ x (Nat.lt_succ_self _)
theorem xf {α:Type} {a:Bool} {l:List α} {j:Nat} {x:α} (h:l[j]?=some x):ao a l=5:=by
 cases l with
 | nil=>simp at h
 | cons y l=>rfl
theorem pR {j m:Nat} (h:j < m):below (.int .i64 (.ofNat j)) m=some j:=by
 unfold below
 show (bif Nat.blt j m then some j else none)=some j
 rw [show Nat.blt j m=true by rw [Nat.blt_eq];exact h]
 rfl
theorem bz {ts:List Tm} {c:Bool} {tk:Tok} {j:Nat} {x:Tm} (h:ts[j]?=some x):indexAddr Tryz.cfg 23 (.list (ao c ts) tk 0 (ag ts)) (.int .i64 (.ofNat j))=some (.imm 0 (aC x)):=by
 have hj:j < ts.length:=(aGs h).1
 rw [xf h]
 show (match below (.int .i64 (.ofNat j)) (aH (ag ts)) with
  | some i=>match nth (ag ts) i with
   | some r=>bif Nat.beq 5 5 then some (V.imm 0 r.cells) else none
   | none=>none
  | none=>none)=_
 rw [ak,pR hj]
 simp only
 rw [bS,cZ,List.getElem?_map,h]
 rfl
theorem sP {ls:List Lv} {a:Bool} {tk:Tok} {j:Nat} {x:Lv} (h:ls[j]?=some x):indexAddr Tryz.cfg 22 (.list (ao a ls) tk 0 (ls.map enc)) (.int .i64 (.ofNat j))=some (.imm 0 (dX x)):=by
 rw [xf h];exact Gk h
theorem kQ {T j:Nat} (h:j < 9223372036854775807):binOp Tryz.cfg .sub T (.int .i64 (.ofNat (j + 1))) (.int .i64 1)=some (.int .i64 (.ofNat j)):=by
 show some (V.int .i64 (eH .i64 (((j + 1:Nat):Int) - 1)))=_
 rw [show (((j + 1:Nat):Int) - 1)=(j:Int) by omega,xe (by omega) (by omega)]
 rfl
theorem dj {a b:Nat} (h:a < b):Nat.blt a b=true:=by rw [Nat.blt_eq];exact h
theorem eS {a b:Nat} (h:¬a < b):Nat.blt a b=false:=by
 cases hq:Nat.blt a b with
 | false=>rfl
 | true=>rw [Nat.blt_eq] at hq;omega
theorem gI {j:Nat} {ts:List Tm} (h:j < ts.length):iLt (.ofNat j) (.ofNat (aH (ag ts)))=true:=by rw [ak];exact dj h
theorem gJ {j:Nat} {ts:List Tm} (h:¬j < ts.length):iLt (.ofNat j) (.ofNat (aH (ag ts)))=false:=by rw [ak];exact eS h
theorem A8 {j:Nat} {ls:List Lv} (h:j < ls.length):iLt (.ofNat j) (.ofNat (aH (ls.map enc)))=true:=by rw [aq,aLm];exact dj h
theorem A9 {j:Nat} {ls:List Lv} (h:¬j < ls.length):iLt (.ofNat j) (.ofNat (aH (ls.map enc)))=false:=by rw [aq,aLm];exact eS h
theorem rfB {S:St} {a b:Bool} (h:a=b):some (V.bool a,S)=some (V.bool b,S):=by rw [h]
theorem rfI {S:St} {a b:Int} (h:a=b):some (V.int .i64 a,S)=some (V.int .i64 b,S):=by rw [h]
noncomputable def C7:Option Nat→V | some l=>.int .i64 (.ofNat l) | none=>.int .i64 (-1)
mutual
noncomputable def dv (p:Tm→Bool):Tm→Nat→Nat→Option Nat
 | .mk k n s a b c d ls ts,left,down=>match left,down with
  | l + 1,dn + 1=>match p (.mk k n s a b c d ls ts) with
   | true=>dO p ts l dn
   | false=>none
  | _,_=>none
noncomputable def dO (p:Tm→Bool):List Tm→Nat→Nat→Option Nat
 | [],l,_=>some l
 | t::ts,l,dn=>match dv p t l dn with
  | some l'=>dO p ts l' dn
  | none=>none
end
theorem jD (p:Tm→Bool) (x:Tm) (left down:Nat):dv p x left down=match left,down with
 | l + 1,dn + 1=>match p x with
  | true=>dO p x.ts l dn
  | false=>none
 | _,_=>none:=by cases x;unfold dv;rfl
theorem eX (p:Tm→Bool) (t:Tm) (ts:List Tm) (l dn:Nat):dO p (t::ts) l dn=match dv p t l dn with
 | some l'=>dO p ts l' dn
 | none=>none:=by rw [dO]
theorem sQ (p:Tm→Bool) (x:Tm):∀{l dn l' : Nat},dv p x l dn=some l'→l' < l:=by
 induction x using Tm.ind with
 | h x ih=>
  intro l dn l' h
  rw [jD] at h
  split at h
  ·rename_i l dn
   split at h
   ·have key:∀(ts:List Tm),(∀y∈ts,y∈x.ts)→∀{l l'},dO p ts l dn=some l'→l'≤l:=by
     intro ts
     induction ts with
     | nil=>intro _ l l' h;rw [dO] at h;cases h;omega
     | cons t ts ih2=>
      intro hm l l' h
      rw [eX] at h
      split at h
      ·rename_i l1 h1
       have:=ih t (hm t aMs) h1
       have:=ih2 (fun y hy=>hm y (aMt _ hy)) h
       omega
      ·cases h
    have:=key x.ts (fun _ h=>h) h
    omega
   ·cases h
  ·cases h
theorem hU (sz:Nat) (b:Bool) (top:Nat) (rows:List V):ai (.list sz (aw b) top rows)=.list sz (aw b) top rows:=by cases b<;>rfl
theorem eO (x:Tm):(aB x).strip=aB x:=by
 show V.agg [_,_,_,ai (.list _ (aw x.b) 0 _),ai (.list _ (aw x.d) 0 _)]=_
 rw [hU,hU]
 rfl
theorem an:bn V.strip []=[]:=rfl
theorem bh (x:Tm) (l:List V):bn V.strip (aB x::l)=aB x::bn V.strip l:=by
 show (aB x).strip::bn V.strip l=_
 rw [eO]
theorem bf (k:IntKind) (i:Int) (l:List V):bn V.strip (.int k i::l)=.int k i::bn V.strip l:=rfl
theorem b8 (sz:Nat) (b:Bool) (top:Nat) (rows:List V) (l:List V):bn V.strip (.list sz (aw b) top rows::l)=.list sz (aw b) top rows::bn V.strip l:=by
 show (V.list sz (aw b) top rows).strip::bn V.strip l=_
 rw [show (V.list sz (aw b) top rows).strip=ai (.list sz (aw b) top rows) from rfl,hU]
noncomputable def bq (k i:Int):Int:=bif (iEq k 5 || iEq k 6) && iEq i 1 then 1 else bif iEq k 7 && iEq i 2 then 1 else 0
theorem EA (n:Nat) (x:Tm) (i:Int):frame Tryz.cfg (RN n) n 88 [aB x,.int .i64 i] St.empty=some (.int .i64 (bq x.k i),St.empty):=by
 refine aO Tryz.cfg _ (fn:=Tryz.f88) rfl rfl ?_
 refine ah.mk (fun h5=>?_) (fun h5=>?_)
 ·refine ah.mk (fun h1=>?_) (fun h1=>?_)
  ·exact rfI (by simp [bq,h5,h1])
  ·refine ah.mk (fun h7=>?_) (fun h7=>?_)
   ·refine ah.mk (fun h2=>?_) (fun h2=>?_)
    ·exact rfI (by simp [bq,h5,h1,h7,h2])
    ·exact rfI (by simp [bq,h5,h1,h7,h2])
   ·exact rfI (by simp [bq,h5,h1,h7])
 ·refine ah.mk (fun h6=>?_) (fun h6=>?_)
  ·refine ah.mk (fun h1=>?_) (fun h1=>?_)
   ·exact rfI (by simp [bq,h5,h6,h1])
   ·refine ah.mk (fun h7=>?_) (fun h7=>?_)
    ·refine ah.mk (fun h2=>?_) (fun h2=>?_)
     ·exact rfI (by simp [bq,h5,h6,h1,h7,h2])
     ·exact rfI (by simp [bq,h5,h6,h1,h7,h2])
    ·exact rfI (by simp [bq,h5,h6,h1,h7])
  ·refine ah.mk (fun h7=>?_) (fun h7=>?_)
   ·refine ah.mk (fun h2=>?_) (fun h2=>?_)
    ·exact rfI (by simp [bq,h5,h6,h7,h2])
    ·exact rfI (by simp [bq,h5,h6,h7,h2])
   ·exact rfI (by simp [bq,h5,h6,h7])
theorem Gl (n:Nat) (x:Tm) (i:Int) (S:St):RN (n + 1) (.f 88) [aB x,.int .i64 i] S=some (.int .i64 (bq x.k i),S):=bC (EA n x i) (by simp only [bh,bf,an]) rfl rfl rfl rfl rfl
noncomputable def jh (x:Tm):Bool:=Nat.ble x.ls.length 20
noncomputable def PD:Code:=jP Tryz.f41 0
theorem Gm (n k:Nat) (x:Tm) (d:Nat) (hd:d < 1000000) (S:St) (K:Ex→Env→St→Prop)
 (dt:∀y∈x.ts,∀l,l < 1000000→RN n (.f 41) [aB y,.int .i64 (.ofNat l),.int .i64 (.ofNat d)] S=some (C7 (dv jh y l d),S)) :
 ∀(rem:List Tm) (j f l:Nat),rem.length < f→(∀i,rem[i]?=x.ts[j + i]?)→j + rem.length=x.ts.length→l < 1000000→j < 1000000→l + j < 1000000→
 (match dO jh rem l d with
  | some l'=>K (.exit 0) { nt:=41,tmps:=[(1,.int .i64 (.ofNat l')),(2,.int .i64 (.ofNat (d + 1))),(3,.ptr (.loc 3) 0),(7,.int .i64 (.ofNat x.ts.length)),(26,.bool false)],locs:=[(3,aC x)],fix:=[] } S
  | none=>K .ret { nt:=41,tmps:=[(6,.int .i64 (-1))],locs:=[(3,aC x)],fix:=[] } S)→
 aD (iter (evalCode Tryz.cfg (RN n) k 41 (Tryz.cfg.fc 41) PD) f { nt:=41,tmps:=[(1,.int .i64 (.ofNat l)),(2,.int .i64 (.ofNat (d + 1))),(3,.ptr (.loc 3) 0),(7,.int .i64 (.ofNat j))],locs:=[(3,aC x)],fix:=[] } S) K
 | [],j,f + 1,l,hf,hr,hj,hl,_,_,hK=>by
  have hjl:j=x.ts.length:=by simpa using hj
  subst hjl
  refine aD.round (nt:=41) (fx:=[]) ?_
  refine ah.no (gJ (by omega)) ?_
  rw [dO] at hK
  exact hK
 | y::rem,j,f + 1,l,hf,hr,hj,hl,hj2,hlj,hK=>by
  have hb:x.ts[j]?=some y:=by have:=hr 0;simpa using this.symm
  have hjl:j < x.ts.length:=(aGs hb).1
  have hy:=dt y (aMg hb) l hl
  refine aD.round (nt:=41) (fx:=[]) ?_
  refine ah.yes (gI hjl) ?_
  refine ab.mk _ (bz hb) ?_
  refine ab.mk _ (kQ (by omega)) ?_
  rw [eX] at hK
  cases hs:dv jh y l d with
  | none=>
   rw [hs] at hK hy
   refine ae.mk _ _ hy ?_
   refine ah.yes rfl ?_
   exact hK
  | some l'=>
   rw [hs] at hK hy
   have:=sQ _ _ hs
   refine ae.mk _ _ hy ?_
   refine ah.no rfl ?_
   refine ab.mk _ (az (by omega)) ?_
   exact Gm n k x d hd S K dt rem (j + 1) f l' (by simp only [aLc] at hf;omega) (fun i=>by have:=hr (i + 1);simp only [List.getElem?_cons_succ] at this;rw [this];congr 1;omega) (by simp only [aLc] at hj;omega) (by omega) (by omega) (by omega) hK
theorem EB (n:Nat) (x:Tm) (l d:Nat) (hl:l < 1000000) (hd:d < 1000000) (hn:x.ts.length < n)
 (dt:∀y∈x.ts,∀l d,l < 1000000→d < 1000000→RN n (.f 41) [aB y,.int .i64 (.ofNat l),.int .i64 (.ofNat d)] St.empty=some (C7 (dv jh y l d),St.empty)) :
 frame Tryz.cfg (RN n) n 41 [aB x,.int .i64 (.ofNat l),.int .i64 (.ofNat d)] St.empty=some (C7 (dv jh x l d),St.empty):=by
 refine aO Tryz.cfg _ (fn:=Tryz.f41) rfl rfl ?_
 rw [jD]
 cases l with
 | zero=>refine ab.mk _ rfl ?_;refine ah.yes rfl ?_;rfl
 | succ l=>
 refine ab.mk _ (kQ (by omega)) ?_
 refine ah.no rfl ?_
 cases d with
 | zero=>refine ah.yes rfl ?_;rfl
 | succ d=>
 refine ah.no rfl ?_
 simp only
 cases hq:jh x with
 | false=>
  refine ah.yes ?_ ?_
  ·show iLt (.ofNat 20) (.ofNat (aH (x.ls.map enc)))=true
   rw [aq,aLm]
   unfold jh at hq
   exact dj (by
    by_cases h:x.ls.length≤20
    ·rw [Nat.ble_eq_true_of_le h] at hq;cases hq
    ·omega)
  ·rfl
 | true=>
  refine ah.no ?_ ?_
  ·show iLt (.ofNat 20) (.ofNat (aH (x.ls.map enc)))=false
   rw [aq,aLm]
   unfold jh at hq
   exact eS (by have:=Nat.le_of_ble_eq_true hq;omega)
  refine Gm n n x d (by omega) _ _ (fun y hy l hl=>dt y hy l d hl (by omega)) x.ts 0 n l hn (fun i=>by rw [Nat.zero_add]) (by rw [Nat.zero_add]) (by omega) (by omega) (by omega) ?_
  cases hs:dO jh x.ts l d<;>rfl
theorem Gn:∀(n:Nat) (x:Tm) (l d:Nat) (S:St),l < 1000000→d < 1000000→wt x < n→RN n (.f 41) [aB x,.int .i64 (.ofNat l),.int .i64 (.ofNat d)] S=some (C7 (dv jh x l d),S)
 | 0,x,l,d,S,_,_,h=>by omega
 | n + 1,x,l,d,S,hl,hd,h=>by
  have hn:x.ts.length < n:=by have:=iz x.ts;rw [cO] at h;omega
  have:=EB n x l d hl hd hn (fun y hy l d hl hd=>Gn n y l d _ hl hd (by have:=cT hy;omega))
  cases hs:dv jh x l d with
  | none=>rw [hs] at this;exact bC this (by simp only [bh,bf,an]) rfl rfl rfl rfl rfl
  | some l'=>rw [hs] at this;exact bC this (by simp only [bh,bf,an]) rfl rfl rfl rfl rfl
noncomputable def ld (x:Tm):Bool:=(dv jh x 131072 8192).isNone
theorem HR (n:Nat) (x:Tm) (h:wt x < n):frame Tryz.cfg (RN n) n 14 [aB x] St.empty=some (.bool (ld x),St.empty):=by
 refine aO Tryz.cfg _ (fn:=Tryz.f14) rfl rfl ?_
 have:=Gn n x 131072 8192 St.empty (by omega) (by omega) h
 unfold ld
 cases hs:dv jh x 131072 8192 with
 | none=>rw [hs] at this;refine ae.mk _ _ this ?_;refine ah.yes rfl ?_;rfl
 | some l=>rw [hs] at this;refine ae.mk _ _ this ?_;refine ah.no rfl ?_;rfl
theorem N9 (n:Nat) (x:Tm) (S:St) (h:wt x < n):RN (n + 1) (.f 14) [aB x] S=some (.bool (ld x),S):=bC (HR n x h) (by simp only [bh,an]) rfl rfl rfl rfl rfl
theorem addNat {T a b:Nat} (h:a + b < 9223372036854775807):binOp Tryz.cfg .add T (.int .i64 (.ofNat a)) (.int .i64 (.ofNat b))=some (.int .i64 (.ofNat (a + b))):=by
 show some (V.int .i64 (eH .i64 ((a:Int) + (b:Int))))=_
 rw [xe (by omega) (by omega)]
 rfl
mutual
noncomputable def eu:Tm→Nat
 | .mk _ _ _ _ _ _ _ _ ts=>1 + gP ts
noncomputable def gP:List Tm→Nat
 | []=>0
 | t::ts=>eu t + gP ts
end
theorem eQ (x:Tm):eu x=1 + gP x.ts:=by cases x;rw [eu];rfl
theorem gf (t:Tm) (ts:List Tm):gP (t::ts)=eu t + gP ts:=by rw [gP]
theorem HS (x:Tm):0 < eu x:=by rw [eQ];omega
theorem iU (ts:List Tm):ts.length≤gP ts:=by
 induction ts with
 | nil=>simp
 | cons t ts ih=>rw [gf];have:=HS t;simp only [aLc];omega
noncomputable def mxI (m n:Int):Int:=if n > m then n else m
noncomputable def dT (a b:Int):Int:=eH .i64 (a + b)
noncomputable def vo (a b:Int):Int:=eH .i64 (a - b)
mutual
noncomputable def jE:Tm→Int→Int
 | .mk k n _ _ _ _ _ _ ts,aa=>bif iEq k 2 then mxI 0 (vo (dT n 1) aa) else jF k ts 0 aa 0
noncomputable def jF (k:Int):List Tm→Nat→Int→Int→Int
 | [],_,_,acc=>acc
 | t::ts,i,aa,acc=>jF k ts (i + 1) aa (mxI acc (jE t (dT aa (bq k (.ofNat i)))))
end
theorem sR (x:Tm) (aa:Int):jE x aa=bif iEq x.k 2 then mxI 0 (vo (dT x.n 1) aa) else jF x.k x.ts 0 aa 0:=by cases x;rw [jE];rfl
theorem pS (k:Int) (t:Tm) (ts:List Tm) (i:Nat) (aa acc:Int):jF k (t::ts) i aa acc=jF k ts (i + 1) aa (mxI acc (jE t (dT aa (bq k (.ofNat i))))):=by rw [jF]
noncomputable def RE:Code:=jP Tryz.f40 0
theorem Jt (n k:Nat) (x:Tm) (aa:Int) (S:St) (K:Ex→Env→St→Prop) (hlen:x.ts.length < 1000000000)
 (dt:∀y∈x.ts,∀a,RN (n + 1) (.f 40) [aB y,.int .i64 a] S=some (.int .i64 (jE y a),S)) :
 ∀(rem:List Tm) (j f:Nat) (acc:Int),rem.length < f→(∀i,rem[i]?=x.ts[j + i]?)→j + rem.length=x.ts.length→
 K (.exit 0) { nt:=37,tmps:=[(1,.int .i64 aa),(2,.ptr (.loc 2) 0),(5,.int .i64 (jF x.k rem j aa acc)),(6,.int .i64 (.ofNat x.ts.length)),(20,.bool false)],locs:=[(2,aC x)],fix:=[] } S→
 aD (iter (evalCode Tryz.cfg (RN (n + 1)) k 40 (Tryz.cfg.fc 40) RE) f { nt:=37,tmps:=[(1,.int .i64 aa),(2,.ptr (.loc 2) 0),(5,.int .i64 acc),(6,.int .i64 (.ofNat j))],locs:=[(2,aC x)],fix:=[] } S) K
 | [],j,f + 1,acc,hf,hr,hj,hK=>by
  have hjl:j=x.ts.length:=by simpa using hj
  subst hjl
  refine aD.round (nt:=37) (fx:=[]) ?_
  refine ah.no (gJ (by omega)) ?_
  rw [jF] at hK
  exact hK
 | y::rem,j,f + 1,acc,hf,hr,hj,hK=>by
  have hb:x.ts[j]?=some y:=by have:=hr 0;simpa using this.symm
  have hjl:j < x.ts.length:=(aGs hb).1
  rw [pS] at hK
  refine aD.round (nt:=37) (fx:=[]) ?_
  refine ah.yes (gI hjl) ?_
  refine ab.mk _ (bz hb) ?_
  refine ae.mk _ _ (Gl n x (.ofNat j) _) ?_
  refine ab.mk _ rfl ?_
  refine ae.mk _ _ (dt y (aMg hb) _) ?_
  refine ab.mk _ (az (by omega)) ?_
  exact Jt n k x aa S K hlen dt rem (j + 1) f _ (by simp only [aLc] at hf;omega) (fun i=>by have:=hr (i + 1);simp only [List.getElem?_cons_succ] at this;rw [this];congr 1;omega) (by simp only [aLc] at hj;omega) hK
theorem Ju:∀(n:Nat) (x:Tm) (aa:Int) (S:St),eu x < 1000000000→wt x < n→RN (n + 1) (.f 40) [aB x,.int .i64 aa] S=some (.int .i64 (jE x aa),S)
 | 0,x,aa,S,_,h=>by omega
 | n + 1,x,aa,S,hl,h=>by
  have hn:x.ts.length < n:=by have:=iz x.ts;rw [cO] at h;omega
  rw [eQ] at hl
  have hlen:=iU x.ts
  have hk:∀y∈x.ts,eu y≤gP x.ts:=by
   have:∀(ts:List Tm),∀y∈ts,eu y≤gP ts:=by
    intro ts
    induction ts with
    | nil=>intro y hy;cases hy
    | cons t ts ih=>
     intro y hy
     rw [gf]
     cases hy with
     | head=>omega
     | tail _ hy=>have:=ih y hy;omega
   exact this x.ts
  have:frame Tryz.cfg (RN (n + 1)) (n + 1) 40 [aB x,.int .i64 aa] St.empty=some (.int .i64 (jE x aa),St.empty):=by
   refine aO Tryz.cfg _ (fn:=Tryz.f40) rfl rfl ?_
   rw [sR]
   refine ah.mk (fun h2=>?_) (fun h2=>?_)
   ·refine ab.mk _ rfl ?_
    refine ab.mk _ rfl ?_
    rw [h2]
    rfl
   ·refine Jt n (n + 1) x aa _ _ (by omega) (fun y hy a=>Ju n y a _ (by have:=hk y hy;omega) (by have:=cT hy;omega)) x.ts 0 (n + 1) 0 (by omega) (fun i=>by rw [Nat.zero_add]) (by rw [Nat.zero_add]) ?_
    rw [h2]
    rfl
  exact bC this (by simp only [bh,bf,an]) rfl rfl rfl rfl rfl
theorem Oa (n:Nat) (x:Tm) (S:St) (hl:eu x < 1000000000) (h:wt x < n):RN (n + 2) (.f 13) [aB x] S=some (.int .i64 (jE x 0),S):=by
 have:frame Tryz.cfg (RN (n + 1)) (n + 1) 13 [aB x] St.empty=some (.int .i64 (jE x 0),St.empty):=by
  refine aO Tryz.cfg _ (fn:=Tryz.f13) rfl rfl ?_
  refine ae.mk _ _ (Ju n x 0 _ hl h) ?_
  rfl
 exact bC this (by simp only [bh,bf,an]) rfl rfl rfl rfl rfl
theorem ae.mkB {R:Run} {t:Tgt} {args:List V} {S:St} {K:V→St→Prop} {b:Bool} {S' : St} (h:R t args S=some (.bool b,S')) (kt:b=true→K (.bool true) S') (kf:b=false→K (.bool false) S'):ae R t args S K:=by
 cases b with
 | true=>exact ae.mk _ _ h (kt rfl)
 | false=>exact ae.mk _ _ h (kf rfl)
theorem ab.mkB {o:Option V} {K:V→Prop} {b:Bool} (h:o=some (.bool b)) (kt:b=true→K (.bool true)) (kf:b=false→K (.bool false)):ab o K:=by
 cases b with
 | true=>exact ab.mk _ h (kt rfl)
 | false=>exact ab.mk _ h (kf rfl)
theorem lf {a b:List UInt8}:binOp Tryz.cfg .eql 9 (.str a) (.str b)=some (.bool (decide (a=b))):=iM _
theorem uT {a b:List UInt8}:binOp Tryz.cfg .neq 9 (.str a) (.str b)=some (.bool (!decide (a=b))):=iM _
noncomputable def cH (k:Int):Int:=bif iEq k 1 || iEq k 2 || iEq k 3 then 0 else bif iEq k 4 || iEq k 5 || iEq k 6 then 2 else bif iEq k 7 then 3 else bif iEq k 8 then 1 else -1
theorem EC (n:Nat) (k:Int):frame Tryz.cfg (RN n) n 141 [.int .u8 k] St.empty=some (.int .i64 (cH k),St.empty):=by
 refine aO Tryz.cfg _ (fn:=Tryz.f141) rfl rfl ?_
 repeat' (refine ah.mk (fun _=>?_) (fun _=>?_))
 all_goals exact rfI (by simp [cH, *])
theorem Gp (n:Nat) (k:Int) (S:St):RN (n + 1) (.f 141) [.int .u8 k] S=some (.int .i64 (cH k),S):=iE (EC n k) rfl rfl rfl rfl rfl
noncomputable def chC (c:Int):Bool:=(!iLt c 97 && !iLt 122 c) || (!iLt c 65 && !iLt 90 c) || (!iLt c 48 && !iLt 57 c) || iEq c 95 || iEq c 46 || iEq c 39
noncomputable def chB (b:UInt8):Bool:=chC (.ofNat b.toNat)
noncomputable def mL (s:List UInt8):Bool:=s.all chB && !iLt (.ofNat (aH s)) 1 && !iLt 32 (.ofNat (aH s))
theorem Ob {s:List UInt8} {j:Nat} {b:UInt8} (h:s[j]?=some b):index Tryz.cfg 9 (.str s) (.int .i64 (.ofNat j))=some (.int .u8 (.ofNat b.toNat)):=by
 have hj:j < s.length:=(aGs h).1
 show (match below (.int .i64 (.ofNat j)) (aH s) with
  | some i=>match nth s i with
   | some b=>some (V.int .u8 b.toNat)
   | none=>none
  | none=>none)=_
 rw [aq,pR hj]
 simp only
 rw [bS,h]
 rfl
theorem Oc {j:Nat} {s:List UInt8} (h:j < s.length):iLt (.ofNat j) (.ofNat (aH s))=true:=by rw [aq];exact dj h
theorem Od {j:Nat} {s:List UInt8} (h:¬j < s.length):iLt (.ofNat j) (.ofNat (aH s))=false:=by rw [aq];exact eS h
noncomputable def M0:Code:=jP Tryz.f80 0
theorem Gq (R:Run) (k:Nat) (s:List UInt8) (hs:s.length≤9223372036854775807) (S:St) (K:Ex→Env→St→Prop) :
 ∀(rem:List UInt8) (j f:Nat),rem.length < f→(∀i,rem[i]?=s[j + i]?)→j + rem.length=s.length→
 (rem.all chB=true→K (.exit 0) { nt:=59,tmps:=[(0,.str s),(3,.int .i64 (.ofNat s.length)),(9,.bool false)],locs:=[],fix:=[] } S)→
 (rem.all chB=false→K .ret { nt:=59,tmps:=[(2,.bool false)],locs:=[],fix:=[] } S)→
 aD (iter (evalCode Tryz.cfg R k 80 (Tryz.cfg.fc 80) M0) f { nt:=59,tmps:=[(0,.str s),(3,.int .i64 (.ofNat j))],locs:=[],fix:=[] } S) K
 | [],j,f + 1,hf,hr,hj,hK,_=>by
  have hjl:j=s.length:=by simpa using hj
  subst hjl
  refine aD.round (nt:=59) (fx:=[]) ?_
  refine ah.no (Od (by omega)) ?_
  exact hK rfl
 | b::rem,j,f + 1,hf,hr,hj,hK,hN=>by
  have hb:s[j]?=some b:=by have:=hr 0;simpa using this.symm
  have hjl:j < s.length:=(aGs hb).1
  have hno:chC (.ofNat b.toNat)=false→K .ret { nt:=59,tmps:=[(2,.bool false)],locs:=[],fix:=[] } S:=fun h=>hN (by simp only [List.all_cons,chB,h,Bool.false_and])
  have jZ:chC (.ofNat b.toNat)=true→aD (iter (evalCode Tryz.cfg R k 80 (Tryz.cfg.fc 80) M0) f { nt:=59,tmps:=[(0,.str s),(3,.int .i64 (.ofNat (j + 1)))],locs:=[],fix:=[] } S) K:=fun h=>
   Gq R k s hs S K rem (j + 1) f (by simp only [aLc] at hf;omega) (fun i=>by have:=hr (i + 1);simp only [List.getElem?_cons_succ] at this;rw [this];congr 1;omega) (by simp only [aLc] at hj;omega) (fun h2=>hK (by simp only [List.all_cons,chB,h,h2,Bool.and_self])) (fun h2=>hN (by simp only [List.all_cons,chB,h,h2,Bool.and_false]))
  clear hK hN
  refine aD.round (nt:=59) (fx:=[]) ?_
  refine ah.yes (Oc hjl) ?_
  refine ab.mk _ (Ob hb) ?_
  repeat' (refine ah.mk (fun _=>?_) (fun _=>?_))
  all_goals first
   | exact hno (by simp only [chC, *];rfl)
   | (refine ab.mk _ (az (T:=3) (j:=j) (by omega)) ?_;exact jZ (by simp only [chC, *];rfl))
theorem ED (n:Nat) (s:List UInt8) (hs:s.length≤9223372036854775807) (hn:s.length < n):frame Tryz.cfg (RN n) n 80 [.str s] St.empty=some (.bool (mL s),St.empty):=by
 refine aO Tryz.cfg _ (fn:=Tryz.f80) rfl rfl ?_
 refine Gq _ n s hs _ _ s 0 n hn (fun i=>by rw [Nat.zero_add]) (by rw [Nat.zero_add]) (fun h=>?_) (fun h=>?_)
 ·repeat' (refine ah.mk (fun _=>?_) (fun _=>?_))
  all_goals exact rfB (by simp_all [mL])
 ·exact rfB (by simp [mL,h])
theorem qw (n:Nat) (s:List UInt8) (S:St) (hs:s.length≤9223372036854775807) (hn:s.length < n):RN (n + 1) (.f 80) [.str s] S=some (.bool (mL s),S):=iE (ED n s hs hn) rfl rfl rfl rfl rfl
noncomputable def mc (x:Tm):Bool:=bif iEq x.k 3 || iEq x.k 8 then mL x.s else decide (x.s=[])
noncomputable def kR (x:Tm):Bool:=bif iEq x.k 2 then !iLt x.n 0 && !iLt 1048576 x.n else bif iEq x.k 8 then !iLt x.n 0 && iLt x.n 12 else iEq x.n 0
noncomputable def lz (x:Tm):Bool:=bif iEq x.k 1 then iEq (.ofNat (aH (x.ls.map enc))) 1 else bif iEq x.k 3 then !iLt 4 (.ofNat (aH (x.ls.map enc))) else iEq (.ofNat (aH (x.ls.map enc))) 0
noncomputable def bm (x:Tm):Bool:=(!iLt (cH x.k) 0 && iEq (.ofNat (aH (ag x.ts))) (cH x.k)) && x.ls.all eN && (mc x && kR x && lz x)
noncomputable def PE:Code:=jP Tryz.f87 0
theorem Gr (n k:Nat) (x:Tm) (hs:x.ls.length≤9223372036854775807) (S:St) (K:Ex→Env→St→Prop) :
 ∀(rem:List Lv) (j f:Nat),rem.length < f→(∀i,rem[i]?=x.ls[j + i]?)→j + rem.length=x.ls.length→
 (rem.all eN=true→K (.exit 0) { nt:=91,tmps:=[(1,.ptr (.loc 1) 0),(3,.int .i64 (.ofNat x.ls.length)),(24,.bool false)],locs:=[(1,aC x)],fix:=[] } S)→
 (rem.all eN=false→K .ret { nt:=91,tmps:=[(2,.bool false)],locs:=[(1,aC x)],fix:=[] } S)→
 aD (iter (evalCode Tryz.cfg (RN (n + 6)) k 87 (Tryz.cfg.fc 87) PE) f { nt:=91,tmps:=[(1,.ptr (.loc 1) 0),(3,.int .i64 (.ofNat j))],locs:=[(1,aC x)],fix:=[] } S) K
 | [],j,f + 1,hf,hr,hj,hK,_=>by
  have hjl:j=x.ls.length:=by simpa using hj
  subst hjl
  refine aD.round (nt:=91) (fx:=[]) ?_
  refine ah.no (A9 (by omega)) ?_
  exact hK rfl
 | b::rem,j,f + 1,hf,hr,hj,hK,hN=>by
  have hb:x.ls[j]?=some b:=by have:=hr 0;simpa using this.symm
  have hjl:j < x.ls.length:=(aGs hb).1
  refine aD.round (nt:=91) (fx:=[]) ?_
  refine ah.yes (A8 hjl) ?_
  refine ab.mk _ (sP hb) ?_
  refine ae.mkB (N7 n b _) (fun h=>?_) (fun h=>?_)
  ·refine ab.mk _ (az (T:=3) (j:=j) (by omega)) ?_
   exact Gr n k x hs S K rem (j + 1) f (by simp only [aLc] at hf;omega) (fun i=>by have:=hr (i + 1);simp only [List.getElem?_cons_succ] at this;rw [this];congr 1;omega) (by simp only [aLc] at hj;omega) (fun h2=>hK (by simp only [List.all_cons,h,h2,Bool.and_self])) (fun h2=>hN (by simp only [List.all_cons,h,h2,Bool.and_false]))
  ·exact hN (by simp only [List.all_cons,h,Bool.false_and])
def SmN (x:Tm):Prop:=x.ls.length≤9223372036854775807∧x.s.length≤9223372036854775807
theorem eT {a b c:Int} (h:iEq a b=true) (hne:iEq b c=false):iEq a c=false:=by
 rw [bW,decide_eq_true_eq] at h
 subst h
 exact hne
theorem ah.sym {b:Bool} {K:V→Prop} (h:K (.bool b)):ah b K:=⟨(fun e=>by rw [e] at h;exact h),(fun e=>by rw [e] at h;exact h)⟩
noncomputable def C8:Code:=((Tryz.f87.body).bind zr).getD .skip
theorem LC (n k:Nat) (x:Tm) (hs:SmN x) (hn:wt x < n + 6) (hk:(!iLt (cH x.k) 0 && iEq (.ofNat (aH (ag x.ts))) (cH x.k))=true) (bt:x.ls.all eN=true) (h1:iEq x.k 1=true) :
 er Tryz.cfg (RN (n + 6)) (Tryz.cfg.fc 87) k 122 91 [] C8 { nt:=91,tmps:=[(1,.ptr (.loc 1) 0),(3,.int .i64 (.ofNat x.ls.length)),(24,.bool false)],locs:=[(1,aC x)],fix:=[] } St.empty (fun e A S=>match e with | .exit _=>False | _=>finish Tryz.cfg Tryz.f87 A S=some (.bool (bm x),St.empty)):=by
 have h2:iEq x.k 2=false:=eT h1 rfl
 have h3:iEq x.k 3=false:=eT h1 rfl
 have h8:iEq x.k 8=false:=eT h1 rfl
 have hw:=cO x
 have e:bm x=(mc x && kR x && lz x):=by unfold bm;rw [hk,bt];rfl
 rw [e]
 refine ab.mkB lf (fun _=>?_) (fun _=>?_)
 all_goals refine ah.mk (fun _=>?_) (fun _=>?_)
 all_goals refine ah.sym ?_
 all_goals refine ah.yes h1 ?_
 all_goals repeat' first
  | refine ah.mk (fun _=>?_) (fun _=>?_)
  | refine ae.mkB (qw (n + 5) x.s _ hs.2 (by omega)) (fun _=>?_) (fun _=>?_)
 all_goals exact rfB (by simp_all only [mc,kR,lz,Bool.not_false,Bool.not_true,Bool.or_false,Bool.false_or,Bool.true_or,Bool.or_true,cond_true,cond_false,Bool.and_true,Bool.true_and,Bool.and_false,Bool.false_and,Bool.not_eq_true',Bool.not_eq_false'])
theorem LD (n k:Nat) (x:Tm) (hs:SmN x) (hn:wt x < n + 6) (hk:(!iLt (cH x.k) 0 && iEq (.ofNat (aH (ag x.ts))) (cH x.k))=true) (bt:x.ls.all eN=true) (h1:iEq x.k 1=false) (h2:iEq x.k 2=true) :
 er Tryz.cfg (RN (n + 6)) (Tryz.cfg.fc 87) k 122 91 [] C8 { nt:=91,tmps:=[(1,.ptr (.loc 1) 0),(3,.int .i64 (.ofNat x.ls.length)),(24,.bool false)],locs:=[(1,aC x)],fix:=[] } St.empty (fun e A S=>match e with | .exit _=>False | _=>finish Tryz.cfg Tryz.f87 A S=some (.bool (bm x),St.empty)):=by
 have h3:iEq x.k 3=false:=eT h2 rfl
 have h8:iEq x.k 8=false:=eT h2 rfl
 have hw:=cO x
 have e:bm x=(mc x && kR x && lz x):=by unfold bm;rw [hk,bt];rfl
 rw [e]
 refine ab.mkB lf (fun _=>?_) (fun _=>?_)
 all_goals refine ah.sym ?_
 all_goals refine ah.mk (fun _=>?_) (fun _=>?_)
 all_goals refine ah.no h1 ?_
 all_goals refine ah.yes h2 ?_
 all_goals repeat' first
  | refine ah.mk (fun _=>?_) (fun _=>?_)
  | refine ae.mkB (qw (n + 5) x.s _ hs.2 (by omega)) (fun _=>?_) (fun _=>?_)
 all_goals exact rfB (by simp_all only [mc,kR,lz,Bool.not_false,Bool.not_true,Bool.or_false,Bool.false_or,Bool.true_or,Bool.or_true,cond_true,cond_false,Bool.and_true,Bool.true_and,Bool.and_false,Bool.false_and,Bool.not_eq_true',Bool.not_eq_false'])
theorem LF (n k:Nat) (x:Tm) (hs:SmN x) (hn:wt x < n + 6) (hk:(!iLt (cH x.k) 0 && iEq (.ofNat (aH (ag x.ts))) (cH x.k))=true) (bt:x.ls.all eN=true) (h1:iEq x.k 1=false) (h2:iEq x.k 2=false) (h3:iEq x.k 3=true) :
 er Tryz.cfg (RN (n + 6)) (Tryz.cfg.fc 87) k 122 91 [] C8 { nt:=91,tmps:=[(1,.ptr (.loc 1) 0),(3,.int .i64 (.ofNat x.ls.length)),(24,.bool false)],locs:=[(1,aC x)],fix:=[] } St.empty (fun e A S=>match e with | .exit _=>False | _=>finish Tryz.cfg Tryz.f87 A S=some (.bool (bm x),St.empty)):=by
 have h8:iEq x.k 8=false:=eT h3 rfl
 have hw:=cO x
 have e:bm x=(mc x && kR x && lz x):=by unfold bm;rw [hk,bt];rfl
 rw [e]
 refine ab.mk _ lf ?_
 all_goals refine ah.mk (fun _=>?_) (fun _=>?_)
 all_goals refine ah.sym ?_
 all_goals refine ah.no h1 ?_
 all_goals refine ah.no h2 ?_
 all_goals refine ah.yes h3 ?_
 all_goals repeat' first
  | refine ah.mk (fun _=>?_) (fun _=>?_)
  | refine ae.mkB (qw (n + 5) x.s _ hs.2 (by omega)) (fun _=>?_) (fun _=>?_)
 all_goals exact rfB (by simp_all only [mc,kR,lz,Bool.not_false,Bool.not_true,Bool.or_false,Bool.false_or,Bool.true_or,Bool.or_true,cond_true,cond_false,Bool.and_true,Bool.true_and,Bool.and_false,Bool.false_and,Bool.not_eq_true',Bool.not_eq_false'])
theorem LG (n k:Nat) (x:Tm) (hs:SmN x) (hn:wt x < n + 6) (hk:(!iLt (cH x.k) 0 && iEq (.ofNat (aH (ag x.ts))) (cH x.k))=true) (bt:x.ls.all eN=true) (h1:iEq x.k 1=false) (h2:iEq x.k 2=false) (h3:iEq x.k 3=false) (h8:iEq x.k 8=true) :
 er Tryz.cfg (RN (n + 6)) (Tryz.cfg.fc 87) k 122 91 [] C8 { nt:=91,tmps:=[(1,.ptr (.loc 1) 0),(3,.int .i64 (.ofNat x.ls.length)),(24,.bool false)],locs:=[(1,aC x)],fix:=[] } St.empty (fun e A S=>match e with | .exit _=>False | _=>finish Tryz.cfg Tryz.f87 A S=some (.bool (bm x),St.empty)):=by
 have hw:=cO x
 have e:bm x=(mc x && kR x && lz x):=by unfold bm;rw [hk,bt];rfl
 rw [e]
 refine ab.mk _ lf ?_
 all_goals refine ah.sym ?_
 all_goals refine ah.mk (fun _=>?_) (fun _=>?_)
 all_goals refine ah.no h1 ?_
 all_goals refine ah.no h2 ?_
 all_goals refine ah.no h3 ?_
 all_goals refine ah.yes h8 ?_
 all_goals repeat' first
  | refine ah.mk (fun _=>?_) (fun _=>?_)
  | refine ae.mkB (qw (n + 5) x.s _ hs.2 (by omega)) (fun _=>?_) (fun _=>?_)
 all_goals exact rfB (by simp_all only [mc,kR,lz,Bool.not_false,Bool.not_true,Bool.or_false,Bool.false_or,Bool.true_or,Bool.or_true,cond_true,cond_false,Bool.and_true,Bool.true_and,Bool.and_false,Bool.false_and,Bool.not_eq_true',Bool.not_eq_false'])
theorem LH (n k:Nat) (x:Tm) (hs:SmN x) (hn:wt x < n + 6) (hk:(!iLt (cH x.k) 0 && iEq (.ofNat (aH (ag x.ts))) (cH x.k))=true) (bt:x.ls.all eN=true) (h1:iEq x.k 1=false) (h2:iEq x.k 2=false) (h3:iEq x.k 3=false) (h8:iEq x.k 8=false) :
 er Tryz.cfg (RN (n + 6)) (Tryz.cfg.fc 87) k 122 91 [] C8 { nt:=91,tmps:=[(1,.ptr (.loc 1) 0),(3,.int .i64 (.ofNat x.ls.length)),(24,.bool false)],locs:=[(1,aC x)],fix:=[] } St.empty (fun e A S=>match e with | .exit _=>False | _=>finish Tryz.cfg Tryz.f87 A S=some (.bool (bm x),St.empty)):=by
 have hw:=cO x
 have e:bm x=(mc x && kR x && lz x):=by unfold bm;rw [hk,bt];rfl
 rw [e]
 refine ab.mkB lf (fun _=>?_) (fun _=>?_)
 all_goals refine ah.mk (fun _=>?_) (fun _=>?_)
 all_goals refine ah.mk (fun _=>?_) (fun _=>?_)
 all_goals refine ah.no h1 ?_
 all_goals refine ah.no h2 ?_
 all_goals refine ah.no h3 ?_
 all_goals refine ah.no h8 ?_
 all_goals repeat' first
  | refine ah.mk (fun _=>?_) (fun _=>?_)
  | refine ae.mkB (qw (n + 5) x.s _ hs.2 (by omega)) (fun _=>?_) (fun _=>?_)
 all_goals exact rfB (by simp_all only [mc,kR,lz,Bool.not_false,Bool.not_true,Bool.or_false,Bool.false_or,Bool.true_or,Bool.or_true,cond_true,cond_false,Bool.and_true,Bool.true_and,Bool.and_false,Bool.false_and,Bool.not_eq_true',Bool.not_eq_false'])
theorem EE (n:Nat) (x:Tm) (hs:SmN x) (hn:wt x < n + 6):frame Tryz.cfg (RN (n + 6)) (n + 6) 87 [aB x] St.empty=some (.bool (bm x),St.empty):=by
 have hw:=cO x
 refine aO Tryz.cfg _ (fn:=Tryz.f87) rfl rfl ?_
 refine ae.mk _ _ (Gp (n + 5) x.k _) ?_
 refine ah.mk (fun hk=>?_) (fun hk=>?_)
 ·exact rfB (by simp [bm,hk])
 refine ae.mk _ _ (Gp (n + 5) x.k _) ?_
 refine ah.mk (fun hk2=>?_) (fun hk2=>?_)
 ·exact rfB (by simp only [Bool.not_eq_true'] at hk2;simp only [bm,hk,hk2,Bool.and_false,Bool.false_and])
 have hkk:(!iLt (cH x.k) 0 && iEq (.ofNat (aH (ag x.ts))) (cH x.k))=true:=by simp only [Bool.not_eq_false'] at hk2;rw [hk,hk2];rfl
 refine Gr n (n + 6) x hs.1 _ _ x.ls 0 (n + 6) (by omega) (fun i=>by rw [Nat.zero_add]) (by rw [Nat.zero_add]) (fun bt=>?_) (fun bt=>?_)
 ·cases h1:iEq x.k 1 with
  | true=>exact LC n (n + 6) x hs hn hkk bt h1
  | false=>
  cases h2:iEq x.k 2 with
  | true=>exact LD n (n + 6) x hs hn hkk bt h1 h2
  | false=>
  cases h3:iEq x.k 3 with
  | true=>exact LF n (n + 6) x hs hn hkk bt h1 h2 h3
  | false=>
  cases h8:iEq x.k 8 with
  | true=>exact LG n (n + 6) x hs hn hkk bt h1 h2 h3 h8
  | false=>exact LH n (n + 6) x hs hn hkk bt h1 h2 h3 h8
 ·exact rfB (by simp only [bm,bt,Bool.and_false,Bool.false_and])
theorem LI (n:Nat) (x:Tm) (S:St) (hs:SmN x) (hn:wt x < n + 6):RN (n + 7) (.f 87) [aB x] S=some (.bool (bm x),S):=bC (EE n x hs hn) (by simp only [bh,an]) rfl rfl rfl rfl rfl
mutual
def Sm:Tm→Prop
 | .mk _ _ s _ _ _ _ ls ts=>(ls.length≤9223372036854775807∧s.length≤9223372036854775807)∧Sms ts
def Sms:List Tm→Prop
 | []=>True
 | t::ts=>Sm t∧Sms ts
end
theorem LJ (ts:List Tm):Sms ts↔∀y∈ts,Sm y:=by
 induction ts with
 | nil=>rw [Sms];simp
 | cons t ts ih=>rw [Sms,ih];simp
theorem hV (x:Tm):Sm x↔SmN x∧∀y∈x.ts,Sm y:=by cases x;rw [Sm,LJ];rfl
noncomputable def PF:Code:=jP Tryz.f39 0
theorem Gs (n k:Nat) (x:Tm) (d:Nat) (hd:d < 1000000) (S:St) (K:Ex→Env→St→Prop)
 (dt:∀y∈x.ts,∀l,l < 1000000→RN n (.f 39) [aB y,.int .i64 (.ofNat l),.int .i64 (.ofNat d)] S=some (C7 (dv bm y l d),S)) :
 ∀(rem:List Tm) (j f l:Nat),rem.length < f→(∀i,rem[i]?=x.ts[j + i]?)→j + rem.length=x.ts.length→l < 1000000→j < 1000000→l + j < 1000000→
 (match dO bm rem l d with
  | some l'=>K (.exit 0) { nt:=40,tmps:=[(1,.int .i64 (.ofNat l')),(2,.int .i64 (.ofNat (d + 1))),(3,.ptr (.loc 3) 0),(7,.int .i64 (.ofNat x.ts.length)),(25,.bool false)],locs:=[(3,aC x)],fix:=[] } S
  | none=>K .ret { nt:=40,tmps:=[(6,.int .i64 (-1))],locs:=[(3,aC x)],fix:=[] } S)→
 aD (iter (evalCode Tryz.cfg (RN n) k 39 (Tryz.cfg.fc 39) PF) f { nt:=40,tmps:=[(1,.int .i64 (.ofNat l)),(2,.int .i64 (.ofNat (d + 1))),(3,.ptr (.loc 3) 0),(7,.int .i64 (.ofNat j))],locs:=[(3,aC x)],fix:=[] } S) K
 | [],j,f + 1,l,hf,hr,hj,hl,_,_,hK=>by
  have hjl:j=x.ts.length:=by simpa using hj
  subst hjl
  refine aD.round (nt:=40) (fx:=[]) ?_
  refine ah.no (gJ (by omega)) ?_
  rw [dO] at hK
  exact hK
 | y::rem,j,f + 1,l,hf,hr,hj,hl,hj2,hlj,hK=>by
  have hb:x.ts[j]?=some y:=by have:=hr 0;simpa using this.symm
  have hjl:j < x.ts.length:=(aGs hb).1
  have hy:=dt y (aMg hb) l hl
  refine aD.round (nt:=40) (fx:=[]) ?_
  refine ah.yes (gI hjl) ?_
  refine ab.mk _ (bz hb) ?_
  refine ab.mk _ (kQ (by omega)) ?_
  rw [eX] at hK
  cases hs:dv bm y l d with
  | none=>
   rw [hs] at hK hy
   refine ae.mk _ _ hy ?_
   refine ah.yes rfl ?_
   exact hK
  | some l'=>
   rw [hs] at hK hy
   have:=sQ _ _ hs
   refine ae.mk _ _ hy ?_
   refine ah.no rfl ?_
   refine ab.mk _ (az (by omega)) ?_
   exact Gs n k x d hd S K dt rem (j + 1) f l' (by simp only [aLc] at hf;omega) (fun i=>by have:=hr (i + 1);simp only [List.getElem?_cons_succ] at this;rw [this];congr 1;omega) (by simp only [aLc] at hj;omega) (by omega) (by omega) (by omega) hK
theorem EF (n:Nat) (x:Tm) (l d:Nat) (hl:l < 1000000) (hd:d < 1000000) (hsm:Sm x) (hn:wt x < n + 1)
 (dt:∀y∈x.ts,∀l d,l < 1000000→d < 1000000→RN (n + 7) (.f 39) [aB y,.int .i64 (.ofNat l),.int .i64 (.ofNat d)] St.empty=some (C7 (dv bm y l d),St.empty)) :
 frame Tryz.cfg (RN (n + 7)) (n + 7) 39 [aB x,.int .i64 (.ofNat l),.int .i64 (.ofNat d)] St.empty=some (C7 (dv bm x l d),St.empty):=by
 have hn2:x.ts.length < n + 7:=by have:=iz x.ts;rw [cO] at hn;omega
 refine aO Tryz.cfg _ (fn:=Tryz.f39) rfl rfl ?_
 rw [jD]
 cases l with
 | zero=>refine ab.mk _ rfl ?_;refine ah.yes rfl ?_;rfl
 | succ l=>
 refine ab.mk _ (kQ (by omega)) ?_
 refine ah.no rfl ?_
 cases d with
 | zero=>refine ah.yes rfl ?_;rfl
 | succ d=>
 refine ah.no rfl ?_
 simp only
 refine ae.mkB (LI n x _ ((hV x).1 hsm).1 (by omega)) (fun hq=>?_) (fun hq=>?_)
 ·rw [hq]
  refine Gs (n + 7) (n + 7) x d (by omega) _ _ (fun y hy l hl=>dt y hy l d hl (by omega)) x.ts 0 (n + 7) l hn2 (fun i=>by rw [Nat.zero_add]) (by rw [Nat.zero_add]) (by omega) (by omega) (by omega) ?_
  cases hs:dO bm x.ts l d<;>rfl
 ·rw [hq]
  rfl
theorem Gt:∀(n:Nat) (x:Tm) (l d:Nat) (S:St),l < 1000000→d < 1000000→Sm x→wt x < n→RN (n + 7) (.f 39) [aB x,.int .i64 (.ofNat l),.int .i64 (.ofNat d)] S=some (C7 (dv bm x l d),S)
 | 0,x,l,d,S,_,_,_,h=>by omega
 | n + 1,x,l,d,S,hl,hd,hsm,h=>by
  have:=EF n x l d hl hd hsm h (fun y hy l d hl hd=>Gt n y l d _ hl hd (((hV x).1 hsm).2 y hy) (by have:=cT hy;omega))
  cases hs:dv bm x l d with
  | none=>rw [hs] at this;exact bC this (by simp only [bh,bf,an]) rfl rfl rfl rfl rfl
  | some l'=>rw [hs] at this;exact bC this (by simp only [bh,bf,an]) rfl rfl rfl rfl rfl
noncomputable def cL (x:Tm):Bool:=(dv bm x 65536 4096).isSome
theorem HT (n:Nat) (x:Tm) (hsm:Sm x) (h:wt x < n):frame Tryz.cfg (RN (n + 7)) (n + 7) 12 [aB x] St.empty=some (.bool (cL x),St.empty):=by
 refine aO Tryz.cfg _ (fn:=Tryz.f12) rfl rfl ?_
 have:=Gt n x 65536 4096 St.empty (by omega) (by omega) hsm h
 unfold cL
 cases hs:dv bm x 65536 4096 with
 | none=>rw [hs] at this;refine ae.mk _ _ this ?_;refine ah.no rfl ?_;rfl
 | some l=>rw [hs] at this;refine ae.mk _ _ this ?_;refine ah.yes rfl ?_;rfl
theorem Oe (n:Nat) (x:Tm) (S:St) (hsm:Sm x) (h:wt x < n):RN (n + 8) (.f 12) [aB x] S=some (.bool (cL x),S):=bC (HT n x hsm h) (by simp only [bh,an]) rfl rfl rfl rfl rfl
theorem C9 {a b:Int}:iEq a b=iEq b a:=by rw [bW,bW];simp only [eq_comm]
noncomputable def k2F (k:Int):Int:=bif iLt (cH k) 0 then 0 else cH k
theorem od {C:Cfg} {R:Run} {k id:Nat} {args:List V} {S:St} {fn:Func} {c:Code} {p:V×St→Prop} (hf:C.fn id=some fn) (hc:fn.body=some c)
 (h:er C R (C.fc id) k id fn.ntmps [] c { nt:=fn.ntmps,tmps:=number 0 args,locs:=[],fix:=[] } S fun e A S=>match e with | .exit _=>False | _=>∃r,finish C fn A S=some r∧p r) :
 ∃r,frame C R k id args S=some r∧p r:=by
 obtain⟨e,A,S',h1,h3⟩:=cM C R (C.fc id) c h
 unfold frame
 simp only [hf,hc,h1]
 unfold finish at h3
 cases e with
 | exit i=>exact h3.elim
 | normal=>exact h3
 | ret=>exact h3
theorem rfT {S:St} {a c:Int} {b d:Bool} (h:a=c) (h2:b=d):some (V.tuple [.int .i64 a,.bool b],S)=some (V.tuple [.int .i64 c,.bool d],S):=by rw [h,h2]
theorem EG (n:Nat) (k:Int):frame Tryz.cfg (RN n) n 166 [.int .u8 k] St.empty=some (.tuple [.int .i64 (k2F k),.bool (!iLt (cH k) 0)],St.empty):=by
 refine aO Tryz.cfg _ (fn:=Tryz.f166) rfl rfl ?_
 cases h7:iEq k 7 with
 | true=>
  have h1:iEq k 1=false:=eT h7 rfl
  have h2:iEq k 2=false:=eT h7 rfl
  have h3:iEq k 3=false:=eT h7 rfl
  have h4:iEq k 4=false:=eT h7 rfl
  have h5:iEq k 5=false:=eT h7 rfl
  have h6:iEq k 6=false:=eT h7 rfl
  have e:cH k=3:=by simp [cH, *]
  refine ah.yes h7 ?_
  refine ab.mk _ rfl ?_
  refine ab.mk _ rfl ?_
  refine ab.mk _ rfl ?_
  exact rfT (by simp only [k2F,e];rfl) (by rw [e];rfl)
 | false=>
 refine ah.no h7 ?_
 cases EH:(iEq k 4 || iEq k 5 || iEq k 6) with
 | true=>
  have Da:(iEq k 1 || iEq k 2 || iEq k 3)=false:=by
   simp only [Bool.or_eq_true] at EH
   rcases EH with (h | h) | h<;>simp [eT h (c:=1) rfl,eT h (c:=2) rfl,eT h (c:=3) rfl]
  have e:cH k=2:=by unfold cH;rw [Da,EH];rfl
  repeat' (refine ah.mk (fun _=>?_) (fun _=>?_))
  all_goals first
   | (refine ab.mk _ rfl ?_;refine ab.mk _ rfl ?_;exact rfT (by simp only [k2F,e];rfl) (by rw [e];rfl))
   | (exfalso;simp_all)
 | false=>
  simp only [Bool.or_eq_false_iff] at EH
  refine ah.no EH.1.1 ?_
  refine ah.no EH.1.2 ?_
  refine ah.no EH.2 ?_
  refine ah.mk (fun h8=>?_) (fun h8=>?_)
  ·have h1:iEq k 1=false:=eT h8 rfl
   have h2:iEq k 2=false:=eT h8 rfl
   have h3:iEq k 3=false:=eT h8 rfl
   have e:cH k=1:=by simp [cH, *]
   refine ab.mk _ rfl ?_
   exact rfT (by simp only [k2F,e];rfl) (by rw [e];rfl)
  ·repeat' (refine ah.mk (fun _=>?_) (fun _=>?_))
   all_goals first
    | (have e:cH k=0:=by simp [cH, *]
       exact rfT (by simp only [k2F,e];rfl) (by rw [e];rfl))
    | (have e:cH k = -1:=by simp [cH, *]
       exact rfT (by simp only [k2F,e];rfl) (by rw [e];rfl))
theorem LK (n:Nat) (k:Int) (S:St):RN (n + 1) (.f 166) [.int .u8 k] S=some (.tuple [.int .i64 (k2F k),.bool (!iLt (cH k) 0)],S):=iE (EG n k) rfl rfl rfl rfl rfl
theorem xg {α β:Type} (f:α→β) (l:List α):aH (bn f l)=l.length:=by rw [bH,aq,aLm]
theorem Jv {s:List UInt8} {j:Nat} {b:UInt8} (h:s[j]?=some b):indexAddr Tryz.cfg 179 (.list 1 .no 0 (bn gq s)) (.int .i64 (.ofNat j))=some (.imm 0 [.int .u8 (.ofNat b.toNat)]):=by
 have hj:j < s.length:=(aGs h).1
 show (match below (.int .i64 (.ofNat j)) (aH (bn gq s)) with
  | some i=>match nth (bn gq s) i with
   | some r=>bif Nat.beq 1 1 then some (V.imm 0 r.cells) else none
   | none=>none
  | none=>none)=_
 rw [xg,pR hj]
 simp only
 rw [bS,bH,List.getElem?_map,h]
 rfl
noncomputable def M1:Code:=jP Tryz.f110 0
theorem Gu (R:Run) (k:Nat) (s:List UInt8) (hs:s.length≤9223372036854775807) (S:St) (K:Ex→Env→St→Prop) :
 ∀(rem:List UInt8) (j f:Nat),rem.length < f→(∀i,rem[i]?=s[j + i]?)→j + rem.length=s.length→
 (rem.all chB=true→K (.exit 0) { nt:=46,tmps:=[(0,.str s),(6,.list 1 .no 0 (bn gq s)),(7,.int .i64 (.ofNat (aH (bn gq s)))),(8,.int .i64 (.ofNat s.length)),(9,.bool false)],locs:=[],fix:=[] } S)→
 (rem.all chB=false→K .ret { nt:=46,tmps:=[(2,.bool false)],locs:=[],fix:=[] } S)→
 aD (iter (evalCode Tryz.cfg R k 110 (Tryz.cfg.fc 110) M1) f { nt:=46,tmps:=[(0,.str s),(6,.list 1 .no 0 (bn gq s)),(7,.int .i64 (.ofNat (aH (bn gq s)))),(8,.int .i64 (.ofNat j))],locs:=[],fix:=[] } S) K
 | [],j,f + 1,hf,hr,hj,hK,_=>by
  have hjl:j=s.length:=by simpa using hj
  subst hjl
  refine aD.round (nt:=46) (fx:=[]) ?_
  refine ah.no (by rw [xg];exact eS (by omega)) ?_
  exact hK rfl
 | b::rem,j,f + 1,hf,hr,hj,hK,hN=>by
  have hb:s[j]?=some b:=by have:=hr 0;simpa using this.symm
  have hjl:j < s.length:=(aGs hb).1
  have hno:chC (.ofNat b.toNat)=false→K .ret { nt:=46,tmps:=[(2,.bool false)],locs:=[],fix:=[] } S:=fun h=>hN (by simp only [List.all_cons,chB,h,Bool.false_and])
  have jZ:chC (.ofNat b.toNat)=true→aD (iter (evalCode Tryz.cfg R k 110 (Tryz.cfg.fc 110) M1) f { nt:=46,tmps:=[(0,.str s),(6,.list 1 .no 0 (bn gq s)),(7,.int .i64 (.ofNat (aH (bn gq s)))),(8,.int .i64 (.ofNat (j + 1)))],locs:=[],fix:=[] } S) K:=fun h=>
   Gu R k s hs S K rem (j + 1) f (by simp only [aLc] at hf;omega) (fun i=>by have:=hr (i + 1);simp only [List.getElem?_cons_succ] at this;rw [this];congr 1;omega) (by simp only [aLc] at hj;omega) (fun h2=>hK (by simp only [List.all_cons,chB,h,h2,Bool.and_self])) (fun h2=>hN (by simp only [List.all_cons,chB,h,h2,Bool.and_false]))
  clear hK hN
  refine aD.round (nt:=46) (fx:=[]) ?_
  refine ah.yes (by rw [xg];exact dj hjl) ?_
  refine ab.mk _ (Jv hb) ?_
  repeat' (refine ah.mk (fun _=>?_) (fun _=>?_))
  all_goals first
   | exact hno (by simp only [chC, *];rfl)
   | (refine ab.mk _ (az (T:=3) (j:=j) (by omega)) ?_;exact jZ (by simp only [chC, *];rfl))
theorem EI (n:Nat) (s:List UInt8) (hs:s.length≤9223372036854775807) (hn:s.length < n):frame Tryz.cfg (RN n) n 110 [.str s] St.empty=some (.bool (mL s),St.empty):=by
 refine aO Tryz.cfg _ (fn:=Tryz.f110) rfl rfl ?_
 refine Gu _ n s hs _ _ s 0 n hn (fun i=>by rw [Nat.zero_add]) (by rw [Nat.zero_add]) (fun h=>?_) (fun h=>?_)
 ·refine ab.mkB uT (fun h2=>?_) (fun h2=>?_)
  ·have e:iLt (.ofNat (aH s)) 1=false:=by
    cases s with
    | nil=>simp at h2
    | cons c s=>show Nat.blt (aH (c::s)) 1=false;exact eS (by rw [aq,aLc];omega)
   repeat' (refine ah.mk (fun _=>?_) (fun _=>?_))
   all_goals exact rfB (by simp_all [mL])
  ·have e:s=[]:=by simpa using h2
   subst e
   exact rfB rfl
 ·exact rfB (by simp [mL,h])
theorem qx (n:Nat) (s:List UInt8) (S:St) (hs:s.length≤9223372036854775807) (hn:s.length < n):RN (n + 1) (.f 110) [.str s] S=some (.bool (mL s),S):=iE (EI n s hs hn) rfl rfl rfl rfl rfl
theorem LL (n:Nat) (l:Lv) (S:St):RN (n + 9) (.f 167) [enc l] S=some (.bool (!eN l),S):=by
 have:frame Tryz.cfg (RN (n + 8)) (n + 8) 167 [enc l] St.empty=some (.bool (!eN l),St.empty):=by
  refine aO Tryz.cfg _ (fn:=Tryz.f167) rfl rfl ?_
  refine ae.mkB (N1 n l _) (fun h=>?_) (fun h=>?_)
  ·rw [h];rfl
  ·rw [h];rfl
 exact iE this rfl rfl rfl rfl rfl
noncomputable def PG:Code:=jP Tryz.f147 0
theorem Ba (n k:Nat) (ls:List Lv) (a:Bool) (tk:Tok) (hs:ls.length≤9223372036854775807) (S:St) (K:Ex→Env→St→Prop) :
 ∀(rem:List Lv) (j f:Nat) (o:Option V),rem.length < f→(∀i,rem[i]?=ls[j + i]?)→j + rem.length=ls.length→
 (rem.all eN=true→K (.exit 0) { nt:=19,tmps:=[(0,.list (ao a ls) tk 0 (ls.map enc)),(1,.fn 167 0 [] []),(7,.int .i64 (.ofNat (aH (ls.map enc)))),(8,.int .i64 (.ofNat ls.length)),(9,.bool false)],locs:=[],fix:=[] } S)→
 (rem.all eN=false→∀i:Nat,K .ret { nt:=19,tmps:=[(4,.int .i64 (.ofNat i))],locs:=[],fix:=[] } S)→
 aD (iter (evalCode Tryz.cfg (RN (n + 9)) k 147 (Tryz.cfg.fc 147) PG) f { nt:=19,tmps:=[(0,.list (ao a ls) tk 0 (ls.map enc)),(1,.fn 167 0 [] []),(7,.int .i64 (.ofNat (aH (ls.map enc)))),(8,.int .i64 (.ofNat j))],locs:=[],fix:=[] } S) K
 | [],j,f + 1,o,hf,hr,hj,hK,_=>by
  have hjl:j=ls.length:=by simpa using hj
  subst hjl
  refine aD.round (nt:=19) (fx:=[]) ?_
  refine ah.no (A9 (by omega)) ?_
  exact hK rfl
 | b::rem,j,f + 1,o,hf,hr,hj,hK,hN=>by
  have hb:ls[j]?=some b:=by have:=hr 0;simpa using this.symm
  have hjl:j < ls.length:=(aGs hb).1
  refine aD.round (nt:=19) (fx:=[]) ?_
  refine ah.yes (A8 hjl) ?_
  refine ab.mk _ (sP hb) ?_
  refine ae.mkB (LL n b _) (fun h=>?_) (fun h=>?_)
  ·exact hN (by simp only [Bool.not_eq_true'] at h;simp only [List.all_cons,h,Bool.false_and]) j
  ·simp only [Bool.not_eq_false'] at h
   refine ab.mk _ (az (T:=3) (j:=j) (by omega)) ?_
   exact Ba n k ls a tk hs S K rem (j + 1) f none (by simp only [aLc] at hf;omega) (fun i=>by have:=hr (i + 1);simp only [List.getElem?_cons_succ] at this;rw [this];congr 1;omega) (by simp only [aLc] at hj;omega) (fun h2=>hK (by simp only [List.all_cons,h,h2,Bool.and_self])) (fun h2=>hN (by simp only [List.all_cons,h,h2,Bool.and_false]))
theorem LM (n:Nat) (ls:List Lv) (a b:Bool) (hs:ls.length≤9223372036854775807) (hn:ls.length < n + 9) (S:St) :
 RN (n + 11) (.f 103) [.list (ao a ls) (aw b) 0 (ls.map enc),.fn 167 0 [] []] S=some (.bool (!ls.all eN),S):=by
 have tZ:∃i:Nat,RN (n + 10) (.f 147) [.list (ao a ls) (aw b) 0 (ls.map enc),.fn 167 0 [] []] St.empty=some (.int .i64 (bif ls.all eN then -1 else .ofNat i),St.empty):=by
  have key:∃i:Nat,frame Tryz.cfg (RN (n + 9)) (n + 9) 147 [.list (ao a ls) (aw b) 0 (ls.map enc),.fn 167 0 [] []] St.empty=some (.int .i64 (bif ls.all eN then -1 else .ofNat i),St.empty):=by
   cases bt:ls.all eN with
   | true=>
    refine⟨0,?_⟩
    refine aO Tryz.cfg _ (fn:=Tryz.f147) rfl rfl ?_
    refine Ba n _ ls a (aw b) hs _ _ ls 0 (n + 9) none hn (fun i=>by rw [Nat.zero_add]) (by rw [Nat.zero_add]) (fun h=>?_) (fun h=>?_)
    ·rfl
    ·rw [bt] at h;cases h
   | false=>
    obtain⟨r,h,i,rfl⟩:=od (C:=Tryz.cfg) (R:=RN (n + 9)) (k:=n + 9) (id:=147) (args:=[.list (ao a ls) (aw b) 0 (ls.map enc),.fn 167 0 [] []]) (S:=St.empty) (fn:=Tryz.f147) (p:=fun r=>∃i:Nat,r=(.int .i64 (.ofNat i),St.empty)) rfl rfl (by
     refine Ba n _ ls a (aw b) hs _ _ ls 0 (n + 9) none hn (fun i=>by rw [Nat.zero_add]) (by rw [Nat.zero_add]) (fun h=>?_) (fun h i=>?_)
     ·rw [bt] at h;cases h
     ·exact⟨_,rfl,i,rfl⟩)
    exact⟨i,h⟩
  obtain⟨i,key⟩:=key
  exact⟨i,bC key (by simp only [b8];rfl) rfl rfl rfl rfl rfl⟩
 obtain⟨i,tZ⟩:=tZ
 have:frame Tryz.cfg (RN (n + 10)) (n + 10) 103 [.list (ao a ls) (aw b) 0 (ls.map enc),.fn 167 0 [] []] St.empty=some (.bool (!ls.all eN),St.empty):=by
  refine aO Tryz.cfg _ (fn:=Tryz.f103) rfl rfl ?_
  cases bt:ls.all eN with
  | true=>rw [bt] at tZ;refine ae.mk _ _ tZ ?_;refine ah.no rfl ?_;rfl
  | false=>rw [bt] at tZ;refine ae.mk _ _ tZ ?_;refine ah.yes rfl ?_;rfl
 exact bC this (by simp only [b8];rfl) rfl rfl rfl rfl rfl
noncomputable def M3:Nat→Code→Code
 | 0,c=>c
 | n + 1,.seq _ b=>M3 n b
 | _ + 1,c=>c
noncomputable def Db:Code:=M3 3 (Tryz.f136.body.getD .skip)
theorem LN (n k:Nat) (x:Tm) (hs:SmN x) (hn:wt x < n + 9) (hk:(!iLt (cH x.k) 0 && iEq (.ofNat (aH (ag x.ts))) (cH x.k))=true) (bt:x.ls.all eN=true) (h1:iEq x.k 1=true) :
 er Tryz.cfg (RN (n + 11)) (Tryz.cfg.fc 136) k 115 85 [] Db { nt:=85,tmps:=[(1,.ptr (.loc 1) 0),(27,.bool false)],locs:=[(1,aC x)],fix:=[] } St.empty (fun e A S=>match e with | .exit _=>False | _=>finish Tryz.cfg Tryz.f136 A S=some (.bool (bm x),St.empty)):=by
 have h2:iEq x.k 2=false:=eT h1 rfl
 have h3:iEq x.k 3=false:=eT h1 rfl
 have h8:iEq x.k 8=false:=eT h1 rfl
 have hw:=cO x
 have e:bm x=(mc x && kR x && lz x):=by unfold bm;rw [hk,bt];rfl
 rw [e]
 refine ab.mkB lf (fun _=>?_) (fun _=>?_)
 all_goals refine ah.mk (fun _=>?_) (fun _=>?_)
 all_goals refine ah.sym ?_
 all_goals refine ah.yes h1 ?_
 all_goals repeat' first
  | refine ah.mk (fun _=>?_) (fun _=>?_)
  | refine ae.mkB (qx (n + 10) x.s _ hs.2 (by omega)) (fun _=>?_) (fun _=>?_)
 all_goals exact rfB (by simp_all only [mc,kR,lz,Bool.not_false,Bool.not_true,Bool.or_false,Bool.false_or,Bool.true_or,Bool.or_true,cond_true,cond_false,Bool.and_true,Bool.true_and,Bool.and_false,Bool.false_and,Bool.not_eq_true',Bool.not_eq_false'])
theorem LO (n k:Nat) (x:Tm) (hs:SmN x) (hn:wt x < n + 9) (hk:(!iLt (cH x.k) 0 && iEq (.ofNat (aH (ag x.ts))) (cH x.k))=true) (bt:x.ls.all eN=true) (h1:iEq x.k 1=false) (h2:iEq x.k 2=true) :
 er Tryz.cfg (RN (n + 11)) (Tryz.cfg.fc 136) k 115 85 [] Db { nt:=85,tmps:=[(1,.ptr (.loc 1) 0),(27,.bool false)],locs:=[(1,aC x)],fix:=[] } St.empty (fun e A S=>match e with | .exit _=>False | _=>finish Tryz.cfg Tryz.f136 A S=some (.bool (bm x),St.empty)):=by
 have h3:iEq x.k 3=false:=eT h2 rfl
 have h8:iEq x.k 8=false:=eT h2 rfl
 have hw:=cO x
 have e:bm x=(mc x && kR x && lz x):=by unfold bm;rw [hk,bt];rfl
 rw [e]
 refine ab.mkB lf (fun _=>?_) (fun _=>?_)
 all_goals refine ah.sym ?_
 all_goals refine ah.mk (fun _=>?_) (fun _=>?_)
 all_goals refine ah.no h1 ?_
 all_goals refine ah.yes h2 ?_
 all_goals repeat' first
  | refine ah.mk (fun _=>?_) (fun _=>?_)
  | refine ae.mkB (qx (n + 10) x.s _ hs.2 (by omega)) (fun _=>?_) (fun _=>?_)
 all_goals exact rfB (by simp_all only [mc,kR,lz,Bool.not_false,Bool.not_true,Bool.or_false,Bool.false_or,Bool.true_or,Bool.or_true,cond_true,cond_false,Bool.and_true,Bool.true_and,Bool.and_false,Bool.false_and,Bool.not_eq_true',Bool.not_eq_false'])
theorem LQ (n k:Nat) (x:Tm) (hs:SmN x) (hn:wt x < n + 9) (hk:(!iLt (cH x.k) 0 && iEq (.ofNat (aH (ag x.ts))) (cH x.k))=true) (bt:x.ls.all eN=true) (h1:iEq x.k 1=false) (h2:iEq x.k 2=false) (h3:iEq x.k 3=true) :
 er Tryz.cfg (RN (n + 11)) (Tryz.cfg.fc 136) k 115 85 [] Db { nt:=85,tmps:=[(1,.ptr (.loc 1) 0),(27,.bool false)],locs:=[(1,aC x)],fix:=[] } St.empty (fun e A S=>match e with | .exit _=>False | _=>finish Tryz.cfg Tryz.f136 A S=some (.bool (bm x),St.empty)):=by
 have h8:iEq x.k 8=false:=eT h3 rfl
 have hw:=cO x
 have e:bm x=(mc x && kR x && lz x):=by unfold bm;rw [hk,bt];rfl
 rw [e]
 refine ab.mk _ lf ?_
 all_goals refine ah.mk (fun _=>?_) (fun _=>?_)
 all_goals refine ah.sym ?_
 all_goals refine ah.no h1 ?_
 all_goals refine ah.no h2 ?_
 all_goals refine ah.yes h3 ?_
 all_goals repeat' first
  | refine ah.mk (fun _=>?_) (fun _=>?_)
  | refine ae.mkB (qx (n + 10) x.s _ hs.2 (by omega)) (fun _=>?_) (fun _=>?_)
 all_goals exact rfB (by simp_all only [mc,kR,lz,Bool.not_false,Bool.not_true,Bool.or_false,Bool.false_or,Bool.true_or,Bool.or_true,cond_true,cond_false,Bool.and_true,Bool.true_and,Bool.and_false,Bool.false_and,Bool.not_eq_true',Bool.not_eq_false'])
theorem LR (n k:Nat) (x:Tm) (hs:SmN x) (hn:wt x < n + 9) (hk:(!iLt (cH x.k) 0 && iEq (.ofNat (aH (ag x.ts))) (cH x.k))=true) (bt:x.ls.all eN=true) (h1:iEq x.k 1=false) (h2:iEq x.k 2=false) (h3:iEq x.k 3=false) (h8:iEq x.k 8=true) :
 er Tryz.cfg (RN (n + 11)) (Tryz.cfg.fc 136) k 115 85 [] Db { nt:=85,tmps:=[(1,.ptr (.loc 1) 0),(27,.bool false)],locs:=[(1,aC x)],fix:=[] } St.empty (fun e A S=>match e with | .exit _=>False | _=>finish Tryz.cfg Tryz.f136 A S=some (.bool (bm x),St.empty)):=by
 have hw:=cO x
 have e:bm x=(mc x && kR x && lz x):=by unfold bm;rw [hk,bt];rfl
 rw [e]
 refine ab.mk _ lf ?_
 all_goals refine ah.sym ?_
 all_goals refine ah.mk (fun _=>?_) (fun _=>?_)
 all_goals refine ah.no h1 ?_
 all_goals refine ah.no h2 ?_
 all_goals refine ah.no h3 ?_
 all_goals refine ah.yes h8 ?_
 all_goals repeat' first
  | refine ah.mk (fun _=>?_) (fun _=>?_)
  | refine ae.mkB (qx (n + 10) x.s _ hs.2 (by omega)) (fun _=>?_) (fun _=>?_)
 all_goals exact rfB (by simp_all only [mc,kR,lz,Bool.not_false,Bool.not_true,Bool.or_false,Bool.false_or,Bool.true_or,Bool.or_true,cond_true,cond_false,Bool.and_true,Bool.true_and,Bool.and_false,Bool.false_and,Bool.not_eq_true',Bool.not_eq_false'])
theorem LS (n k:Nat) (x:Tm) (hs:SmN x) (hn:wt x < n + 9) (hk:(!iLt (cH x.k) 0 && iEq (.ofNat (aH (ag x.ts))) (cH x.k))=true) (bt:x.ls.all eN=true) (h1:iEq x.k 1=false) (h2:iEq x.k 2=false) (h3:iEq x.k 3=false) (h8:iEq x.k 8=false) :
 er Tryz.cfg (RN (n + 11)) (Tryz.cfg.fc 136) k 115 85 [] Db { nt:=85,tmps:=[(1,.ptr (.loc 1) 0),(27,.bool false)],locs:=[(1,aC x)],fix:=[] } St.empty (fun e A S=>match e with | .exit _=>False | _=>finish Tryz.cfg Tryz.f136 A S=some (.bool (bm x),St.empty)):=by
 have hw:=cO x
 have e:bm x=(mc x && kR x && lz x):=by unfold bm;rw [hk,bt];rfl
 rw [e]
 refine ab.mkB lf (fun _=>?_) (fun _=>?_)
 all_goals refine ah.mk (fun _=>?_) (fun _=>?_)
 all_goals refine ah.mk (fun _=>?_) (fun _=>?_)
 all_goals refine ah.no h1 ?_
 all_goals refine ah.no h2 ?_
 all_goals refine ah.no h3 ?_
 all_goals refine ah.no h8 ?_
 all_goals repeat' first
  | refine ah.mk (fun _=>?_) (fun _=>?_)
  | refine ae.mkB (qx (n + 10) x.s _ hs.2 (by omega)) (fun _=>?_) (fun _=>?_)
 all_goals exact rfB (by simp_all only [mc,kR,lz,Bool.not_false,Bool.not_true,Bool.or_false,Bool.false_or,Bool.true_or,Bool.or_true,cond_true,cond_false,Bool.and_true,Bool.true_and,Bool.and_false,Bool.false_and,Bool.not_eq_true',Bool.not_eq_false'])
theorem EJ (n:Nat) (x:Tm) (hs:SmN x) (hn:wt x < n + 9):frame Tryz.cfg (RN (n + 11)) (n + 11) 136 [aB x] St.empty=some (.bool (bm x),St.empty):=by
 have hw:=cO x
 have Da:=LK (n + 10) x.k St.empty
 refine aO Tryz.cfg _ (fn:=Tryz.f136) rfl rfl ?_
 cases hk:iLt (cH x.k) 0 with
 | true=>
  rw [hk] at Da
  refine ae.mk _ _ Da ?_
  exact rfB (by simp only [bm,hk,Bool.not_true,Bool.false_and])
 | false=>
 rw [hk,show k2F x.k=cH x.k by unfold k2F;rw [hk];rfl] at Da
 refine ae.mk _ _ Da ?_
 refine ah.mk (fun hk2=>?_) (fun hk2=>?_)
 ·exact rfB (by simp only [Bool.not_eq_true'] at hk2;rw [C9] at hk2;simp only [bm,hk,hk2,Bool.and_false,Bool.false_and])
 have hkk:(!iLt (cH x.k) 0 && iEq (.ofNat (aH (ag x.ts))) (cH x.k))=true:=by simp only [Bool.not_eq_false'] at hk2;rw [C9] at hk2;rw [hk,hk2];rfl
 refine ae.mkB (LM n x.ls x.a x.b hs.1 (by omega) _) (fun bt=>?_) (fun bt=>?_)
 ·exact rfB (by simp only [Bool.not_eq_true'] at bt;simp only [bm,bt,Bool.and_false,Bool.false_and])
 ·simp only [Bool.not_eq_false'] at bt
  cases h1:iEq x.k 1 with
  | true=>exact LN n (n + 11) x hs hn hkk bt h1
  | false=>
  cases h2:iEq x.k 2 with
  | true=>exact LO n (n + 11) x hs hn hkk bt h1 h2
  | false=>
  cases h3:iEq x.k 3 with
  | true=>exact LQ n (n + 11) x hs hn hkk bt h1 h2 h3
  | false=>
  cases h8:iEq x.k 8 with
  | true=>exact LR n (n + 11) x hs hn hkk bt h1 h2 h3 h8
  | false=>exact LS n (n + 11) x hs hn hkk bt h1 h2 h3 h8
theorem LU (n:Nat) (x:Tm) (S:St) (hs:SmN x) (hn:wt x < n + 9):RN (n + 12) (.f 136) [aB x] S=some (.bool (bm x),S):=bC (EJ n x hs hn) (by simp only [bh,an]) rfl rfl rfl rfl rfl
noncomputable def oL (l:Int):St:={ heap:=[.cells 3 [.int .i64 l],.cells 87 [.fn 135 2 [] [.ptr (.box 0) 0,.ptr (.box 1) 0]]],aA:=[] }
noncomputable def PH:Code:=jP Tryz.f135 0
@[reducible] noncomputable def oneMore (d:Nat):Option Tm→List (Nat×List V)
  | none=>[]
  | some z=>[(d,aC z)]
theorem Gv (n k:Nat) (x:Tm) (d:Nat) (hd:d < 1000000) (K:Ex→Env→St→Prop) (hlen:x.ts.length < 1000000)
 (dt:∀y∈x.ts,∀l,l < 1000000→∃l' : Int,(match dv bm y l d with | some m=>l'=.ofNat m | none=>True)∧
  RN n (.f 135) [aB y,.int .i64 (.ofNat d),.ptr (.box 0) 0,.ptr (.box 1) 0] (oL (.ofNat l))=some (.bool (dv bm y l d).isSome,oL l')) :
 ∀(rem:List Tm) (j f l:Nat) (o:Option Tm),rem.length < f→(∀i,rem[i]?=x.ts[j + i]?)→j + rem.length=x.ts.length→l < 1000000→
 (match dO bm rem l d with
  | some l'=>∀o:Option Tm,K (.exit 0) { nt:=36,tmps:=[(1,.int .i64 (.ofNat (d + 1))),(3,.ptr (.box 1) 0),(23,.list (ao x.c x.ts) (aw x.d) 0 (ag x.ts)),(24,.int .i64 (.ofNat (aH (ag x.ts)))),(25,.int .i64 (.ofNat x.ts.length)),(26,.bool false)],locs:=(4,aC x)::oneMore 8 o,fix:=[] } (oL (.ofNat l'))
  | none=>∀(l:Int) (z:Tm),K .ret { nt:=36,tmps:=[(6,.bool false)],locs:=[(4,aC x),(8,aC z)],fix:=[] } (oL l))→
 aD (iter (evalCode Tryz.cfg (RN n) k 135 (Tryz.cfg.fc 135) PH) f { nt:=36,tmps:=[(1,.int .i64 (.ofNat (d + 1))),(3,.ptr (.box 1) 0),(23,.list (ao x.c x.ts) (aw x.d) 0 (ag x.ts)),(24,.int .i64 (.ofNat (aH (ag x.ts)))),(25,.int .i64 (.ofNat j))],locs:=(4,aC x)::oneMore 8 o,fix:=[] } (oL (.ofNat l))) K
 | [],j,f + 1,l,o,hf,hr,hj,hl,hK=>by
  have hjl:j=x.ts.length:=by simpa using hj
  subst hjl
  rw [dO] at hK
  have hK:=hK o
  cases o
  all_goals
   refine aD.round (nt:=36) (fx:=[]) ?_
   refine ah.no (gJ (by omega)) ?_
   exact hK
 | y::rem,j,f + 1,l,o,hf,hr,hj,hl,hK=>by
  have hb:x.ts[j]?=some y:=by have:=hr 0;simpa using this.symm
  have hjl:j < x.ts.length:=(aGs hb).1
  obtain⟨l',hl1,hy⟩:=dt y (aMg hb) l hl
  rw [eX] at hK
  cases o
  all_goals
   refine aD.round (nt:=36) (fx:=[]) ?_
   refine ah.yes (gI hjl) ?_
   refine ab.mk _ (bz hb) ?_
   refine ab.mk _ (kQ (by omega)) ?_
   cases hs:dv bm y l d with
   | none=>
    rw [hs] at hK hy
    refine ae.mk _ _ hy ?_
    exact hK l' y
   | some m=>
    rw [hs] at hK hy hl1
    have:=sQ _ _ hs
    simp only at hl1
    subst hl1
    refine ae.mk _ _ hy ?_
    refine ab.mk _ (az (T:=3) (j:=j) (by omega)) ?_
    exact Gv n k x d hd K hlen dt rem (j + 1) f m (some y) (by simp only [aLc] at hf;omega) (fun i=>by have:=hr (i + 1);simp only [List.getElem?_cons_succ] at this;rw [this];congr 1;omega) (by simp only [aLc] at hj;omega) (by omega) hK
theorem Gw {x:Tm} (h:bm x=true):x.ts.length≤3:=by
 unfold bm at h
 simp only [Bool.and_eq_true] at h
 have h1:=h.1.1.2
 rw [bW,decide_eq_true_eq,ak] at h1
 have:cH x.k≤3:=by
  unfold cH
  cases (iEq x.k 1 || iEq x.k 2 || iEq x.k 3)<;>cases (iEq x.k 4 || iEq x.k 5 || iEq x.k 6)<;>cases iEq x.k 7<;>cases iEq x.k 8<;>simp
 simp only [aOn] at h1
 omega
theorem EK (n:Nat) (x:Tm) (l d:Nat) (hl:l < 1000000) (hd:d < 1000000) (hsm:Sm x) (hn:wt x < n + 1)
 (dt:∀y∈x.ts,∀l d,l < 1000000→d < 1000000→∃l' : Int,(match dv bm y l d with | some m=>l'=.ofNat m | none=>True)∧
  RN (n + 12) (.f 135) [aB y,.int .i64 (.ofNat d),.ptr (.box 0) 0,.ptr (.box 1) 0] (oL (.ofNat l))=some (.bool (dv bm y l d).isSome,oL l')) :
 ∃r,frame Tryz.cfg (RN (n + 12)) (n + 12) 135 [aB x,.int .i64 (.ofNat d),.ptr (.box 0) 0,.ptr (.box 1) 0] (oL (.ofNat l))=some r∧
  ∃l' : Int,(match dv bm x l d with | some m=>l'=.ofNat m | none=>True)∧r=(.bool (dv bm x l d).isSome,oL l'):=by
 have hn2:x.ts.length < n + 12:=by have:=iz x.ts;rw [cO] at hn;omega
 refine od (fn:=Tryz.f135) rfl rfl ?_
 rw [jD]
 cases l with
 | zero=>refine ab.mk _ rfl ?_;refine ah.yes rfl ?_;exact⟨_,rfl,-1,trivial,rfl⟩
 | succ l=>
 refine ab.mk _ (kQ (by omega)) ?_
 refine ah.no rfl ?_
 cases d with
 | zero=>refine ah.yes rfl ?_;exact⟨_,rfl,_,trivial,rfl⟩
 | succ d=>
 refine ah.no rfl ?_
 simp only
 refine ae.mkB (LU n x _ ((hV x).1 hsm).1 (by omega)) (fun hq=>?_) (fun hq=>?_)
 ·rw [hq]
  have h3:=Gw hq
  refine Gv (n + 12) (n + 12) x d (by omega) _ (by omega) (fun y hy l hl=>dt y hy l d hl (by omega)) x.ts 0 (n + 12) l none hn2 (fun i=>by rw [Nat.zero_add]) (by rw [Nat.zero_add]) (by omega) ?_
  cases hs:dO bm x.ts l d with
  | some l'=>intro o;cases o<;>exact⟨_,rfl,_,rfl,rfl⟩
  | none=>exact fun l z=>⟨_,rfl,l,trivial,rfl⟩
 ·rw [hq]
  exact⟨_,rfl,_,trivial,rfl⟩
theorem Gx:∀(n:Nat) (x:Tm) (l d:Nat),l < 1000000→d < 1000000→Sm x→wt x < n→∃l' : Int,(match dv bm x l d with | some m=>l'=.ofNat m | none=>True)∧
 RN (n + 12) (.f 135) [aB x,.int .i64 (.ofNat d),.ptr (.box 0) 0,.ptr (.box 1) 0] (oL (.ofNat l))=some (.bool (dv bm x l d).isSome,oL l')
 | 0,x,l,d,_,_,_,h=>by omega
 | n + 1,x,l,d,hl,hd,hsm,h=>by
  obtain⟨r,h1,l',h2,rfl⟩:=EK n x l d hl hd hsm h (fun y hy l d hl hd=>Gx n y l d hl hd (((hV x).1 hsm).2 y hy) (by have:=cT hy;omega))
  exact⟨l',h2,bw rfl h1⟩
theorem EL (n:Nat) (x:Tm) (S:St) (hsm:Sm x) (h:wt x < n):RN (n + 13) (.f 67) [aB x] S=some (.bool (cL x),S):=by
 obtain⟨l',_,h2⟩:=Gx n x 65536 4096 (by omega) (by omega) hsm h
 have:frame Tryz.cfg (RN (n + 12)) (n + 12) 67 [aB x] St.empty=some (.bool (cL x),oL l'):=by
  refine aO Tryz.cfg _ (fn:=Tryz.f67) rfl rfl ?_
  refine ae.mk _ _ h2 ?_
  rfl
 exact bC this (by simp only [bh,an]) rfl rfl rfl rfl rfl
theorem LV (n:Nat) (x:Tm) (i:Int) (S:St):RN (n + 1) (.f 169) [aB x,.int .i64 i] S=some (.int .i64 (bq x.k i),S):=by
 have:frame Tryz.cfg (RN n) n 169 [aB x,.int .i64 i] St.empty=some (.int .i64 (bq x.k i),St.empty):=by
  refine aO Tryz.cfg _ (fn:=Tryz.f169) rfl rfl ?_
  repeat' (refine ah.mk (fun _=>?_) (fun _=>?_))
  all_goals exact rfI (by simp [bq, *])
 exact bC this (by simp only [bh,bf,an]) rfl rfl rfl rfl rfl
theorem Gy (n:Nat) (x:Tm) (i:Int) (S:St):RN (n + 1) (.f 201) [aB x,.int .i64 i] S=some (.int .i64 (bq x.k i),S):=by
 have:frame Tryz.cfg (RN n) n 201 [aB x,.int .i64 i] St.empty=some (.int .i64 (bq x.k i),St.empty):=by
  refine aO Tryz.cfg _ (fn:=Tryz.f201) rfl rfl ?_
  repeat' (refine ah.mk (fun _=>?_) (fun _=>?_))
  all_goals exact rfI (by simp [bq, *])
 exact bC this (by simp only [bh,bf,an]) rfl rfl rfl rfl rfl
theorem pT {x y:Tm} (h:y∈x.ts):eu y < eu x:=by
 have:∀(ts:List Tm),∀y∈ts,eu y≤gP ts:=by
  intro ts
  induction ts with
  | nil=>intro y hy;cases hy
  | cons t ts ih=>
   intro y hy
   rw [gf]
   cases hy with
   | head=>omega
   | tail _ hy=>have:=ih y hy;omega
 have:=this x.ts y h
 rw [eQ x];omega
def jm (T T' : List Nat):Prop:=T.length≤T'.length∧∀t v,nth T t=some v→nth T' t=some v
theorem jm.refl (T:List Nat):jm T T:=⟨Nat.le_refl _,fun _ _ h=>h⟩
theorem jm.trans {T T' T'' : List Nat} (h:jm T T') (h' : jm T' T''):jm T T'':=⟨Nat.le_trans h.1 h'.1,fun t v e=>h'.2 t v (h.2 t v e)⟩
noncomputable def ep:Tok→Tok | .own _=>.no | t=>t
@[reducible] noncomputable def mZ (r:Tm) (tk:Tok):List V:=[.int .u8 r.k,.int .i64 r.n,.str r.s,.list (ao r.a r.ls) (aw r.b) 0 (r.ls.map enc),.list (ao r.c r.ts) tk 0 (ag r.ts)]
theorem oe (r:Tm) (tk:Tok) (h:ep tk=aw r.d):V.agg (bn ai (mZ r tk))=aB r:=by
 show V.agg [_,_,_,ai (.list _ (aw r.b) 0 _),ai (.list _ tk 0 _)]=_
 rw [hU]
 cases tk with
 | no=>rw [show ai (.list (ao r.c r.ts) .no 0 (ag r.ts))=.list (ao r.c r.ts) (aw r.d) 0 (ag r.ts) by rw [← h];rfl];rfl
 | tight=>rw [show ai (.list (ao r.c r.ts) .tight 0 (ag r.ts))=.list (ao r.c r.ts) (aw r.d) 0 (ag r.ts) by rw [← h];rfl];rfl
 | own t=>rw [show ai (.list (ao r.c r.ts) (.own t) 0 (ag r.ts))=.list (ao r.c r.ts) (aw r.d) 0 (ag r.ts) by rw [← h];rfl];rfl
def zt {α:Type} (T:List Nat) (done:List α) (tok:Tok):Prop:=(done=[]∧tok=.tight)∨∃t,tok=.own t∧nth T t=some done.length∧done≠[]
theorem zt.ext {α:Type} {T T' : List Nat} {done:List α} {tok:Tok} (h:zt T done tok) (e:jm T T'):zt T' done tok:=by
 rcases h with h | ⟨t,h1,h2,h3⟩
 ·exact .inl h
 ·exact .inr ⟨t,h1,e.2 _ _ h2,h3⟩
theorem nz (l m:List Tm):ag (l++m)=cz (ag l) (ag m):=by rw [bM,cZ,cZ,cZ,List.map_append]
theorem mM {α:Type} {l:List α} {t:Nat} {v:α} (h:nth l t=some v):t < l.length:=by rw [bS] at h;exact (aGs h).1
theorem PI {A:Env} {H:List Blk} {T:List Nat} {ac:Acc} {done:List Tm} {tok:Tok} {row:V} {r:Tm} (hac:ac.heap=true) (hg:zt T done tok) (hlen:done.length < 1000000000) (BG:row=aB r) :
 ∃T' aV,append Tryz.cfg A { heap:=H,aA:=T } ac 23 (.list (ao false done) tok 0 (ag done)) (.list 5 .tight 0 [row])=some (.list (ao false (done++[r])) aV 0 (ag (done++[r])),{ heap:=H,aA:=T' })∧
  zt T' (done++[r]) aV∧T.length≤T'.length∧(∀t,aV=.own t→∀t' v,t'≠t→nth T t'=some v→nth T' t'=some v)∧(∀t,aV=.own t→tok=.own t∨t=T.length):=by
 subst BG
 rcases hg with⟨rfl,rfl⟩ | ⟨t,rfl,h2,h3⟩
 ·refine⟨cz T [1],.own (aH T),?_,.inr ⟨_,rfl,?_,by simp⟩,?_,?_,?_⟩
  ·show (ite _ _ _)=_
   refine (if_pos ?_).trans ?_
   ·exact (⟨by omega,.inl rfl,by omega,hac⟩ : 0 < 5∧(true=true∨0=5)∧(0 + 1) * 81≤140737488355328∧ac.heap=true)
   ·rw [show ag ([]++[r])=[aB r] from cZ [r],show ag []=[] from cZ []]
    rfl
  ·rw [bM,bS,aq,List.getElem?_append_right (Nat.le_refl _),Nat.sub_self];rfl
  ·rw [bM];simp
  ·intro t _ t' v _ hv
   rw [bS] at hv
   rw [bM,bS,List.getElem?_append_left (aGs hv).1];exact hv
  ·intro t ht;cases ht;exact .inr (aq T)
 ·refine⟨tA T t (aH (ag done) + 1),.own t,?_,.inr ⟨t,rfl,?_,by simp⟩,?_,?_,?_⟩
  ·have hne:(ag done).isEmpty=false:=by
    cases done with
    | nil=>exact absurd rfl h3
    | cons d ds=>rw [ag];rfl
   have hsz:ao false done=5:=by
    cases done with
    | nil=>exact absurd rfl h3
    | cons d ds=>rfl
   have RF:ao false (done++[r])=5:=by
    cases done with
    | nil=>exact absurd rfl h3
    | cons d ds=>rfl
   rw [hsz,RF]
   show (ite _ _ _)=_
   refine (if_pos ?_).trans ?_
   ·exact (⟨by omega,.inr rfl,by rw [ak];omega,hac⟩ : 0 < 5∧((ag done).isEmpty=true∨5=5)∧(aH (ag done) + 1) * 81≤140737488355328∧ac.heap=true)
   show (ite _ _ _)=_
   refine (if_pos ?_).trans ?_
   ·show nth T t=some (aH (ag done))
    rw [ak];exact h2
   ·rw [nz,show ag [r]=[aB r] from cZ [r]]
    rfl
  ·rw [fp,bS,List.getElem?_set_self (by exact mM h2),ak];simp
  ·rw [fp,List.length_set];exact Nat.le_refl _
  ·intro t1 ht1 t' v hne hv
   cases ht1
   rw [fp,bS,List.getElem?_set_ne (fun e=>hne e.symm),← bS];exact hv
  ·intro t1 ht1;cases ht1;exact .inl rfl
noncomputable def Tm.zu (x:Tm) (n:Int):Tm:=.mk x.k n x.s x.a x.b x.c x.d x.ls x.ts
mutual
noncomputable def dk {σ:Type} (step:σ→Tm→Int→Tm×σ):Tm→σ→Int→Tm×σ
 | .mk k n s a b c d ls ts,st,aa=>bif iEq k 2 then step st (.mk k n s a b c d ls ts) aa
  else (.mk k n s a b false (cn step k ts 0 st aa).1.isEmpty ls (cn step k ts 0 st aa).1,(cn step k ts 0 st aa).2)
noncomputable def cn {σ:Type} (step:σ→Tm→Int→Tm×σ) (k:Int):List Tm→Nat→σ→Int→List Tm×σ
 | [],_,st,_=>([],st)
 | t::ts,i,st,aa=>((dk step t st (dT aa (bq k (.ofNat i)))).1::(cn step k ts (i + 1) (dk step t st (dT aa (bq k (.ofNat i)))).2 aa).1,
  (cn step k ts (i + 1) (dk step t st (dT aa (bq k (.ofNat i)))).2 aa).2)
end
noncomputable def Tm.mN (x:Tm) (l:List Tm):Tm:=.mk x.k x.n x.s x.a x.b false l.isEmpty x.ls l
theorem jG {σ:Type} (step:σ→Tm→Int→Tm×σ) (x:Tm) (st:σ) (aa:Int):dk step x st aa=bif iEq x.k 2 then step st x aa
 else (x.mN (cn step x.k x.ts 0 st aa).1,(cn step x.k x.ts 0 st aa).2):=by cases x;rw [dk];rfl
def av {α:Type} (T0 T:List Nat) (done:List α) (tok:Tok):Prop:=jm T0 T∧((done=[]∧tok=.tight)∨∃t,tok=.own t∧T0.length≤t∧nth T t=some done.length∧done≠[])
theorem av.start {α:Type} (T:List Nat):av (α:=α) T T [] .tight:=⟨jm.refl T,.inl ⟨rfl,rfl⟩⟩
theorem av.ext {α:Type} {T0 T T' : List Nat} {done:List α} {tok:Tok} (h:av T0 T done tok) (e:jm T T'):av T0 T' done tok:=by
 obtain⟨h0,h⟩:=h
 refine⟨h0.trans e,?_⟩
 rcases h with h | ⟨t,h1,h2,h3,h4⟩
 ·exact .inl h
 ·exact .inr ⟨t,h1,h2,e.2 _ _ h3,h4⟩
theorem av.ep {α:Type} {T0 T:List Nat} {done:List α} {tok:Tok} (h:av T0 T done tok):ep tok=aw done.isEmpty:=by
 rcases h.2 with⟨rfl,rfl⟩ | ⟨t,rfl,_,_,h4⟩
 ·rfl
 ·cases done with
  | nil=>exact absurd rfl h4
  | cons d ds=>rfl
theorem nA (b:Bool):ep (aw b)=aw b:=by cases b<;>rfl
theorem rR {A B:Env} {S:St} {ac ac' : Acc} {T:Nat} {sz tok top rows sz' aV m7 jO} (h:ac.heap=ac'.heap) :
 append Tryz.cfg A S ac T (.list sz tok top rows) (.list sz' aV m7 jO)=append Tryz.cfg B S ac' T (.list sz tok top rows) (.list sz' aV m7 jO):=by
 simp only [append,gV,kp,h]
theorem EM {A:Env} {H:List Blk} {T0 T:List Nat} {ac:Acc} {done:List Tm} {tok:Tok} {row:V} {r:Tm} (hac:ac.heap=true) (hg:av T0 T done tok) (hlen:done.length < 1000000000) (BG:row=aB r) :
 ∃T' aV,append Tryz.cfg A { heap:=H,aA:=T } ac 23 (.list (ao false done) tok 0 (ag done)) (.list 5 .tight 0 [row])=some (.list (ao false (done++[r])) aV 0 (ag (done++[r])),{ heap:=H,aA:=T' })∧
  av T0 T' (done++[r]) aV:=by
 obtain⟨h0,hg⟩:=hg
 have hg' : zt T done tok:=by
  rcases hg with h | ⟨t,h1,h2,h3,h4⟩
  ·exact .inl h
  ·exact .inr ⟨t,h1,h3,h4⟩
 obtain⟨T',aV,k1,k2,k3,k4,k5⟩:=PI (A:=A) (H:=H) hac hg' hlen BG
 rcases k2 with⟨h,_⟩ | ⟨t,rfl,k6,k7⟩
 ·simp at h
 have ht:T0.length≤t:=by
  rcases k5 t rfl with rfl | rfl
  ·rcases hg with⟨_,h⟩ | ⟨t',h1,h2,_⟩
   ·cases h
   ·cases h1;exact h2
  ·exact h0.1
 refine⟨T',.own t,k1,⟨Nat.le_trans h0.1 k3,fun t' v hv=>k4 t rfl t' v (fun e=>?_) (h0.2 t' v hv)⟩,.inr ⟨t,rfl,ht,k6,k7⟩⟩
 subst e
 have:=mM hv
 omega
@[reducible] noncomputable def fI:List V:=[.int .u8 0,.int .i64 0,.str [],.list 0 .tight 0 [],.list 0 .tight 0 []]
noncomputable def PJ:Code:=jP Tryz.f189 0
noncomputable def oM (by_:Int) (s:Unit) (T:List Nat):St:={ heap:=[.cells 3 [.int .i64 by_]],aA:=T }
@[reducible] noncomputable def xi:V:=.fn 202 1 [] [.ptr (.box 0) 0]
noncomputable def ch (by_:Int) (s:Unit) (x:Tm) (a:Int):Tm×Unit:=(bif !iLt x.n a then x.zu (dT x.n by_) else x,())
theorem LW (n:Nat) (by_:Int) (s:Unit) (x:Tm) (a:Int) (T:List Nat) (h2:iEq x.k 2=true):RN (n + 1) (.f 202) [aB x,.int .i64 a,.ptr (.box 0) 0] (oM by_ s T)=some (aB (ch by_ s x a).1,oM by_ (ch by_ s x a).2 T):=by
 refine bw rfl ?_
 refine aO Tryz.cfg _ (fn:=Tryz.f202) rfl rfl ?_
 unfold ch
 refine ah.mk (fun h=>?_) (fun h=>?_)
 ·rw [h]
  refine ab.mk _ rfl ?_
  rfl
 ·rw [h]
  rfl
theorem Gz (n k:Nat) (x:Tm) (aa:Int) (by_:Int) (K:Ex→Env→St→Prop) (hlen:x.ts.length < 1000000000) (T0:List Nat)
 (dt:∀y∈x.ts,∀(s:Unit) a T,∃T' tk,jm T T'∧ep tk=aw (dk (ch by_) y s a).1.d∧
  RN (n + 2) (.f 189) [aB y,.int .i64 a,xi] (oM by_ s T)=some (.agg (mZ (dk (ch by_) y s a).1 tk),oM by_ (dk (ch by_) y s a).2 T')) :
 ∀(rem:List Tm) (j f:Nat) (done:List Tm) (s:Unit) (T:List Nat) (tok:Tok) (o:Option Tm),rem.length < f→(∀i,rem[i]?=x.ts[j + i]?)→j + rem.length=x.ts.length→j=done.length→av T0 T done tok→
 (∀T' aV (o:Option Tm),av T0 T' (done++(cn (ch by_) x.k rem j s aa).1) aV→K (.exit 0) { nt:=40,tmps:=[(1,.int .i64 aa),(2,xi),(3,.ptr (.loc 3) 0),(6,.ptr (.loc 6) 0),(7,.list (ao false (done++(cn (ch by_) x.k rem j s aa).1)) aV 0 (ag (done++(cn (ch by_) x.k rem j s aa).1))),(18,.list (ao x.c x.ts) (aw x.d) 0 (ag x.ts)),(19,.int .i64 (.ofNat (aH (ag x.ts)))),(20,.int .i64 (.ofNat x.ts.length)),(21,.bool false)],locs:=(3,aC x)::(6,fI)::oneMore 9 o,fix:=[] } (oM by_ (cn (ch by_) x.k rem j s aa).2 T'))→
 aD (iter (evalCode Tryz.cfg (RN (n + 2)) k 189 (Tryz.cfg.fc 189) PJ) f { nt:=40,tmps:=[(1,.int .i64 aa),(2,xi),(3,.ptr (.loc 3) 0),(6,.ptr (.loc 6) 0),(7,.list (ao false done) tok 0 (ag done)),(18,.list (ao x.c x.ts) (aw x.d) 0 (ag x.ts)),(19,.int .i64 (.ofNat (aH (ag x.ts)))),(20,.int .i64 (.ofNat j))],locs:=(3,aC x)::(6,fI)::oneMore 9 o,fix:=[] } (oM by_ s T)) K
 | [],j,f + 1,done,s,T,tok,o,hf,hr,hj,hjd,hg,hK=>by
  have hjl:j=x.ts.length:=by simpa using hj
  subst hjl
  rw [cn] at hK
  simp only [List.append_nil] at hK
  have hK:=hK T tok o hg
  cases o
  all_goals
   refine aD.round (nt:=40) (fx:=[]) ?_
   refine ah.no (gJ (by omega)) ?_
   exact hK
 | y::rem,j,f + 1,done,s,T,tok,o,hf,hr,hj,hjd,hg,hK=>by
  have hb:x.ts[j]?=some y:=by have:=hr 0;simpa using this.symm
  have hjl:j < x.ts.length:=(aGs hb).1
  obtain⟨T1,tk,e1,e2,hy⟩:=dt y (aMg hb) s (dT aa (bq x.k (.ofNat j))) T
  obtain⟨T2,bg,ha,hg2⟩:=EM (A:={ nt:=0,tmps:=[],locs:=[],fix:=[] }) (H:=(oM by_ (dk (ch by_) y s (dT aa (bq x.k (.ofNat j)))).2 T1).heap) (ac:=⟨false,none,true⟩) rfl (hg.ext e1) (by omega) (oe _ tk e2)
  rw [cn] at hK
  dsimp only at hK
  rw [List.append_cons] at hK
  cases o
  all_goals
   refine aD.round (nt:=40) (fx:=[]) ?_
   refine ah.yes (gI hjl) ?_
   refine ab.mk _ (bz hb) ?_
   refine ae.mk _ _ (Gy (n + 1) x (.ofNat j) _) ?_
   refine ab.mk _ rfl ?_
   refine ae.mk _ _ hy ?_
   refine ab.mk _ rfl ?_
   refine cj.mk _ _ ((rR rfl).trans ha) ?_
   refine ab.mk _ (az (T:=3) (j:=j) (by omega)) ?_
   exact Gz n k x aa by_ K hlen T0 dt rem (j + 1) f (done++[(dk (ch by_) y s (dT aa (bq x.k (.ofNat j)))).1]) _ T2 bg (some y) (by simp only [aLc] at hf;omega) (fun i=>by have:=hr (i + 1);simp only [List.getElem?_cons_succ] at this;rw [this];congr 1;omega) (by simp only [aLc] at hj;omega) (by simp [hjd]) hg2 hK
theorem GA:∀(n:Nat) (x:Tm) (aa:Int) (by_:Int) (s:Unit) (T:List Nat),eu x < 1000000000→wt x < n→∃T' tk,jm T T'∧ep tk=aw (dk (ch by_) x s aa).1.d∧
 RN (n + 2) (.f 189) [aB x,.int .i64 aa,xi] (oM by_ s T)=some (.agg (mZ (dk (ch by_) x s aa).1 tk),oM by_ (dk (ch by_) x s aa).2 T')
 | 0,x,aa,by_,s,T,_,h=>by omega
 | n + 1,x,aa,by_,s,T,hsz,h=>by
  have hn:x.ts.length < n + 2:=by have:=iz x.ts;rw [cO] at h;omega
  have hlen:x.ts.length < 1000000000:=by have:=iU x.ts;rw [eQ] at hsz;omega
  have key:∃r,frame Tryz.cfg (RN (n + 2)) (n + 2) 189 [aB x,.int .i64 aa,xi] (oM by_ s T)=some r∧
   ∃T' tk,jm T T'∧ep tk=aw (dk (ch by_) x s aa).1.d∧r=(.agg (mZ (dk (ch by_) x s aa).1 tk),oM by_ (dk (ch by_) x s aa).2 T'):=by
   refine od (fn:=Tryz.f189) rfl rfl ?_
   rw [jG]
   refine ah.mk (fun h2=>?_) (fun h2=>?_)
   ·rw [h2]
    refine ae.mk _ _ (LW (n + 1) by_ s x aa T h2) ?_
    exact⟨_,rfl,T,_,jm.refl T,nA _,rfl⟩
   ·rw [h2]
    refine Gz n (n + 2) x aa by_ _ hlen T (fun y hy s a T=>GA n y a by_ s T (by have:=pT hy;omega) (by have:=cT hy;omega)) x.ts 0 (n + 2) [] s T .tight none hn (fun i=>by rw [Nat.zero_add]) (by rw [Nat.zero_add]) rfl (av.start T) ?_
    intro T' aV o hg
    simp only [List.nil_append] at hg ⊢
    have hs:=hg.ep
    rcases hg.2 with⟨hl,rfl⟩ | ⟨t,rfl,hl⟩
    ·cases o
     all_goals exact⟨_,rfl,T',.tight,hg.1,hs,rfl⟩
    ·cases o
     all_goals exact⟨_,rfl,T',.own t,hg.1,hs,rfl⟩
  obtain⟨r,h1,T',tk,h2,h3,rfl⟩:=key
  exact⟨T',tk,h2,h3,bw rfl h1⟩
noncomputable def xj (by_:Int) (s:Bool) (T:List Nat):St:={ heap:=[.cells 3 [.int .i64 by_],.cells 4 [.bool s]],aA:=T }
@[reducible] noncomputable def Dc:V:=.fn 190 2 [] [.ptr (.box 1) 0,.ptr (.box 0) 0]
noncomputable def dg (by_:Int) (s:Bool) (x:Tm) (a:Int):Tm×Bool:=(x,s || (!iLt x.n a && iLt x.n (vo a by_)))
theorem Of (n:Nat) (by_:Int) (s:Bool) (x:Tm) (a:Int) (T:List Nat) (h2:iEq x.k 2=true):RN (n + 1) (.f 190) [aB x,.int .i64 a,.ptr (.box 1) 0,.ptr (.box 0) 0] (xj by_ s T)=some (aB (dg by_ s x a).1,xj by_ (dg by_ s x a).2 T):=by
 refine bw rfl ?_
 refine aO Tryz.cfg _ (fn:=Tryz.f190) rfl rfl ?_
 unfold dg
 cases s with
 | true=>rfl
 | false=>
  refine ah.mk (fun h=>?_) (fun h=>?_)
  ·rw [h]
   refine ab.mk _ rfl ?_
   refine ah.mk (fun h3=>?_) (fun h3=>?_)
   ·rw [show iLt x.n (vo a by_)=true from h3];rfl
   ·rw [show iLt x.n (vo a by_)=false from h3];rfl
  ·rw [h];rfl
theorem Jw (n k:Nat) (x:Tm) (aa:Int) (by_:Int) (K:Ex→Env→St→Prop) (hlen:x.ts.length < 1000000000) (T0:List Nat)
 (dt:∀y∈x.ts,∀(s:Bool) a T,∃T' tk,jm T T'∧ep tk=aw (dk (dg by_) y s a).1.d∧
  RN (n + 2) (.f 189) [aB y,.int .i64 a,Dc] (xj by_ s T)=some (.agg (mZ (dk (dg by_) y s a).1 tk),xj by_ (dk (dg by_) y s a).2 T')) :
 ∀(rem:List Tm) (j f:Nat) (done:List Tm) (s:Bool) (T:List Nat) (tok:Tok) (o:Option Tm),rem.length < f→(∀i,rem[i]?=x.ts[j + i]?)→j + rem.length=x.ts.length→j=done.length→av T0 T done tok→
 (∀T' aV (o:Option Tm),av T0 T' (done++(cn (dg by_) x.k rem j s aa).1) aV→K (.exit 0) { nt:=40,tmps:=[(1,.int .i64 aa),(2,Dc),(3,.ptr (.loc 3) 0),(6,.ptr (.loc 6) 0),(7,.list (ao false (done++(cn (dg by_) x.k rem j s aa).1)) aV 0 (ag (done++(cn (dg by_) x.k rem j s aa).1))),(18,.list (ao x.c x.ts) (aw x.d) 0 (ag x.ts)),(19,.int .i64 (.ofNat (aH (ag x.ts)))),(20,.int .i64 (.ofNat x.ts.length)),(21,.bool false)],locs:=(3,aC x)::(6,fI)::oneMore 9 o,fix:=[] } (xj by_ (cn (dg by_) x.k rem j s aa).2 T'))→
 aD (iter (evalCode Tryz.cfg (RN (n + 2)) k 189 (Tryz.cfg.fc 189) PJ) f { nt:=40,tmps:=[(1,.int .i64 aa),(2,Dc),(3,.ptr (.loc 3) 0),(6,.ptr (.loc 6) 0),(7,.list (ao false done) tok 0 (ag done)),(18,.list (ao x.c x.ts) (aw x.d) 0 (ag x.ts)),(19,.int .i64 (.ofNat (aH (ag x.ts)))),(20,.int .i64 (.ofNat j))],locs:=(3,aC x)::(6,fI)::oneMore 9 o,fix:=[] } (xj by_ s T)) K
 | [],j,f + 1,done,s,T,tok,o,hf,hr,hj,hjd,hg,hK=>by
  have hjl:j=x.ts.length:=by simpa using hj
  subst hjl
  rw [cn] at hK
  simp only [List.append_nil] at hK
  have hK:=hK T tok o hg
  cases o
  all_goals
   refine aD.round (nt:=40) (fx:=[]) ?_
   refine ah.no (gJ (by omega)) ?_
   exact hK
 | y::rem,j,f + 1,done,s,T,tok,o,hf,hr,hj,hjd,hg,hK=>by
  have hb:x.ts[j]?=some y:=by have:=hr 0;simpa using this.symm
  have hjl:j < x.ts.length:=(aGs hb).1
  obtain⟨T1,tk,e1,e2,hy⟩:=dt y (aMg hb) s (dT aa (bq x.k (.ofNat j))) T
  obtain⟨T2,bg,ha,hg2⟩:=EM (A:={ nt:=0,tmps:=[],locs:=[],fix:=[] }) (H:=(xj by_ (dk (dg by_) y s (dT aa (bq x.k (.ofNat j)))).2 T1).heap) (ac:=⟨false,none,true⟩) rfl (hg.ext e1) (by omega) (oe _ tk e2)
  rw [cn] at hK
  dsimp only at hK
  rw [List.append_cons] at hK
  cases o
  all_goals
   refine aD.round (nt:=40) (fx:=[]) ?_
   refine ah.yes (gI hjl) ?_
   refine ab.mk _ (bz hb) ?_
   refine ae.mk _ _ (Gy (n + 1) x (.ofNat j) _) ?_
   refine ab.mk _ rfl ?_
   refine ae.mk _ _ hy ?_
   refine ab.mk _ rfl ?_
   refine cj.mk _ _ ((rR rfl).trans ha) ?_
   refine ab.mk _ (az (T:=3) (j:=j) (by omega)) ?_
   exact Jw n k x aa by_ K hlen T0 dt rem (j + 1) f (done++[(dk (dg by_) y s (dT aa (bq x.k (.ofNat j)))).1]) _ T2 bg (some y) (by simp only [aLc] at hf;omega) (fun i=>by have:=hr (i + 1);simp only [List.getElem?_cons_succ] at this;rw [this];congr 1;omega) (by simp only [aLc] at hj;omega) (by simp [hjd]) hg2 hK
theorem Jx:∀(n:Nat) (x:Tm) (aa:Int) (by_:Int) (s:Bool) (T:List Nat),eu x < 1000000000→wt x < n→∃T' tk,jm T T'∧ep tk=aw (dk (dg by_) x s aa).1.d∧
 RN (n + 2) (.f 189) [aB x,.int .i64 aa,Dc] (xj by_ s T)=some (.agg (mZ (dk (dg by_) x s aa).1 tk),xj by_ (dk (dg by_) x s aa).2 T')
 | 0,x,aa,by_,s,T,_,h=>by omega
 | n + 1,x,aa,by_,s,T,hsz,h=>by
  have hn:x.ts.length < n + 2:=by have:=iz x.ts;rw [cO] at h;omega
  have hlen:x.ts.length < 1000000000:=by have:=iU x.ts;rw [eQ] at hsz;omega
  have key:∃r,frame Tryz.cfg (RN (n + 2)) (n + 2) 189 [aB x,.int .i64 aa,Dc] (xj by_ s T)=some r∧
   ∃T' tk,jm T T'∧ep tk=aw (dk (dg by_) x s aa).1.d∧r=(.agg (mZ (dk (dg by_) x s aa).1 tk),xj by_ (dk (dg by_) x s aa).2 T'):=by
   refine od (fn:=Tryz.f189) rfl rfl ?_
   rw [jG]
   refine ah.mk (fun h2=>?_) (fun h2=>?_)
   ·rw [h2]
    refine ae.mk _ _ (Of (n + 1) by_ s x aa T h2) ?_
    exact⟨_,rfl,T,_,jm.refl T,nA _,rfl⟩
   ·rw [h2]
    refine Jw n (n + 2) x aa by_ _ hlen T (fun y hy s a T=>Jx n y a by_ s T (by have:=pT hy;omega) (by have:=cT hy;omega)) x.ts 0 (n + 2) [] s T .tight none hn (fun i=>by rw [Nat.zero_add]) (by rw [Nat.zero_add]) rfl (av.start T) ?_
    intro T' aV o hg
    simp only [List.nil_append] at hg ⊢
    have hs:=hg.ep
    rcases hg.2 with⟨hl,rfl⟩ | ⟨t,rfl,hl⟩
    ·cases o
     all_goals exact⟨_,rfl,T',.tight,hg.1,hs,rfl⟩
    ·cases o
     all_goals exact⟨_,rfl,T',.own t,hg.1,hs,rfl⟩
  obtain⟨r,h1,T',tk,h2,h3,rfl⟩:=key
  exact⟨T',tk,h2,h3,bw rfl h1⟩
theorem LX (n:Nat) (x:Tm) (L:List Tm) (tok:Tok) (ht:ep tok=aw L.isEmpty) (S:St):RN (n + 1) (.f 140) [aB x,.list (ao false L) tok 0 (ag L)] S=some (aB (x.mN L),S):=by
 have:frame Tryz.cfg (RN n) n 140 [aB x,.list (ao false L) (aw L.isEmpty) 0 (ag L)] St.empty=some (.agg (mZ (x.mN L) (aw L.isEmpty)),St.empty):=by
  refine aO Tryz.cfg _ (fn:=Tryz.f140) rfl rfl ?_
  rfl
 have hs:bn V.strip [aB x,.list (ao false L) tok 0 (ag L)]=[aB x,.list (ao false L) (aw L.isEmpty) 0 (ag L)]:=by
  rw [bh,← ht]
  cases tok<;>rfl
 refine iE (v':=.agg (mZ (x.mN L) (aw L.isEmpty))) (by rw [hs];exact this) rfl rfl rfl rfl ?_
 exact oe (x.mN L) _ (nA _)
noncomputable def PK:Code:=jP Tryz.f79 0
theorem GB (n k:Nat) (x:Tm) (by_:Int) (aa:Int) (K:Ex→Env→St→Prop) (hlen:x.ts.length < 1000000000) (T0:List Nat)
 (dt:∀y∈x.ts,∀a S,RN (n + 1) (.f 79) [aB y,.int .i64 a,.int .i64 by_] S=some (aB (dk (ch by_) y () a).1,S)) :
 ∀(rem:List Tm) (j f:Nat) (done:List Tm) (T:List Nat) (tok:Tok),rem.length < f→(∀i,rem[i]?=x.ts[j + i]?)→j + rem.length=x.ts.length→j=done.length→av T0 T done tok→
 (∀T' aV,av T0 T' (done++(cn (ch by_) x.k rem j () aa).1) aV→K (.exit 0) { nt:=47,tmps:=[(1,.int .i64 aa),(2,.int .i64 by_),(3,.ptr (.loc 3) 0),(6,.ptr (.loc 6) 0),(7,.list (ao false (done++(cn (ch by_) x.k rem j () aa).1)) aV 0 (ag (done++(cn (ch by_) x.k rem j () aa).1))),(8,.int .i64 (.ofNat x.ts.length)),(26,.bool false)],locs:=[(3,aC x),(6,fI)],fix:=[] } { heap:=[],aA:=T' })→
 aD (iter (evalCode Tryz.cfg (RN (n + 1)) k 79 (Tryz.cfg.fc 79) PK) f { nt:=47,tmps:=[(1,.int .i64 aa),(2,.int .i64 by_),(3,.ptr (.loc 3) 0),(6,.ptr (.loc 6) 0),(7,.list (ao false done) tok 0 (ag done)),(8,.int .i64 (.ofNat j))],locs:=[(3,aC x),(6,fI)],fix:=[] } { heap:=[],aA:=T }) K
 | [],j,f + 1,done,T,tok,hf,hr,hj,hjd,hg,hK=>by
  have hjl:j=x.ts.length:=by simpa using hj
  subst hjl
  rw [cn] at hK
  simp only [List.append_nil] at hK
  have hK:=hK T tok hg
  refine aD.round (nt:=47) (fx:=[]) ?_
  refine ah.no (gJ (by omega)) ?_
  exact hK
 | y::rem,j,f + 1,done,T,tok,hf,hr,hj,hjd,hg,hK=>by
  have hb:x.ts[j]?=some y:=by have:=hr 0;simpa using this.symm
  have hjl:j < x.ts.length:=(aGs hb).1
  have hy:=dt y (aMg hb) (dT aa (bq x.k (.ofNat j)))
  obtain⟨T2,bg,ha,hg2⟩:=EM (A:={ nt:=0,tmps:=[],locs:=[],fix:=[] }) (H:=[]) (ac:=⟨false,none,true⟩) rfl hg (by omega) (eO (dk (ch by_) y () (dT aa (bq x.k (.ofNat j)))).1)
  rw [cn] at hK
  dsimp only at hK
  rw [List.append_cons] at hK
  refine aD.round (nt:=47) (fx:=[]) ?_
  refine ah.yes (gI hjl) ?_
  refine ab.mk _ (bz hb) ?_
  refine ae.mk _ _ (Gl (n + 0) x (.ofNat j) _) ?_
  refine ab.mk _ rfl ?_
  refine ae.mk _ _ (hy _) ?_
  refine ab.mk _ rfl ?_
  refine cj.mk _ _ ((rR rfl).trans ha) ?_
  refine ab.mk _ (az (T:=3) (j:=j) (by omega)) ?_
  exact GB n k x by_ aa K hlen T0 dt rem (j + 1) f (done++[(dk (ch by_) y () (dT aa (bq x.k (.ofNat j)))).1]) T2 bg (by simp only [aLc] at hf;omega) (fun i=>by have:=hr (i + 1);simp only [List.getElem?_cons_succ] at this;rw [this];congr 1;omega) (by simp only [aLc] at hj;omega) (by simp [hjd]) hg2 hK
theorem GC:∀(n:Nat) (x:Tm) (by_:Int) (aa:Int) (S:St),eu x < 1000000000→wt x < n→RN (n + 1) (.f 79) [aB x,.int .i64 aa,.int .i64 by_] S=some (aB (dk (ch by_) x () aa).1,S)
 | 0,x,by_,aa,S,_,h=>by omega
 | n + 1,x,by_,aa,S,hsz,h=>by
  have hn:x.ts.length < n + 1:=by have:=iz x.ts;rw [cO] at h;omega
  have hlen:x.ts.length < 1000000000:=by have:=iU x.ts;rw [eQ] at hsz;omega
  have key:∃S',frame Tryz.cfg (RN (n + 1)) (n + 1) 79 [aB x,.int .i64 aa,.int .i64 by_] St.empty=some (aB (dk (ch by_) x () aa).1,S'):=by
   refine CB Tryz.cfg _ (fn:=Tryz.f79) rfl rfl ?_
   rw [jG]
   refine ah.mk (fun h2=>?_) (fun h2=>?_)
   ·rw [h2]
    unfold ch
    refine ah.mk (fun h=>?_) (fun h=>?_)
    ·rw [h]
     refine ab.mk _ rfl ?_
     exact⟨_,rfl⟩
    ·rw [h]
     exact⟨_,rfl⟩
   ·rw [h2]
    refine GB n (n + 1) x by_ aa _ hlen [] (fun y hy a S=>GC n y by_ a S (by have:=pT hy;omega) (by have:=cT hy;omega)) x.ts 0 (n + 1) [] [] .tight hn (fun i=>by rw [Nat.zero_add]) (by rw [Nat.zero_add]) rfl (av.start []) ?_
    intro T' aV hg
    simp only [List.nil_append] at hg ⊢
    refine ae.mk _ _ (LX (n + 0) x _ aV hg.ep _) ?_
    exact⟨_,rfl⟩
  obtain⟨S',h1⟩:=key
  exact bC h1 (by simp only [bh,bf,b8,an]) rfl rfl rfl rfl (eO _)
noncomputable def zTm:Tm:=.mk 0 0 [] false true false true [] []
noncomputable def zv (x:Tm):Tm×Int:=match cL x with | true=>(x,0) | false=>(zTm,4)
@[reducible] noncomputable def zw (r:Tm×Int):V:=.tuple [aB r.1,.int .i64 r.2]
theorem uU (r:Tm×Int):(zw r).cb=zw r:=by
 show V.tuple [(aB r.1).strip,_]=_
 rw [eO]
 rfl
theorem Og (n:Nat) (x:Tm) (S:St) (hsm:Sm x) (h:wt x < n):RN (n + 14) (.f 191) [aB x] S=some (zw (zv x),S):=by
 have:frame Tryz.cfg (RN (n + 13)) (n + 13) 191 [aB x] St.empty=some (zw (zv x),St.empty):=by
  refine aO Tryz.cfg _ (fn:=Tryz.f191) rfl rfl ?_
  unfold zv
  refine ae.mkB (EL n x _ hsm h) (fun hm=>?_) (fun hm=>?_)
  ·rw [hm];rfl
  ·rw [hm];rfl
 exact bC this (by simp only [bh,an]) rfl rfl rfl rfl (uU _)
noncomputable def aZ (x:Tm) (from_ by_:Int):Tm:=(dk (ch by_) x () from_).1
theorem Oh (n:Nat) (x:Tm) (from_ by_:Int) (S:St) (hsz:eu x < 1000000000) (h:wt x < n):RN (n + 3) (.f 192) [aB x,.int .i64 from_,.int .i64 by_] S=some (aB (aZ x from_ by_),S):=by
 obtain⟨T',tk,_,h2,h3⟩:=GA n x from_ by_ () [] hsz h
 have:frame Tryz.cfg (RN (n + 2)) (n + 2) 192 [aB x,.int .i64 from_,.int .i64 by_] St.empty=some (.agg (mZ (aZ x from_ by_) tk),oM by_ () T'):=by
  refine aO Tryz.cfg _ (fn:=Tryz.f192) rfl rfl ?_
  refine ae.mk _ _ h3 ?_
  rfl
 exact bC this (by simp only [bh,bf,an]) rfl rfl rfl rfl (oe _ tk h2)
noncomputable def liftM (x:Tm) (from_ by_:Int):Tm×Int:=bif iLt from_ 0 || !cL x then (zTm,1) else bif (dk (dg by_) x false from_).2 then (zTm,7) else zv (aZ x from_ by_)
theorem Oi (n:Nat) (x:Tm) (from_ by_:Int) (S:St) (hsm:Sm x) (hsz:eu x < 1000000000) (h:wt x < n) (RG:Sm (aZ x from_ by_)) (h2:wt (aZ x from_ by_) < n) :
 RN (n + 15) (.f 165) [aB x,.int .i64 from_,.int .i64 by_] S=some (zw (liftM x from_ by_),S):=by
 have:∃S',frame Tryz.cfg (RN (n + 14)) (n + 14) 165 [aB x,.int .i64 from_,.int .i64 by_] St.empty=some (zw (liftM x from_ by_),S'):=by
  refine CB Tryz.cfg _ (fn:=Tryz.f165) rfl rfl ?_
  unfold liftM
  refine ah.mk (fun h0=>?_) (fun h0=>?_)
  ·rw [h0]
   exact⟨_,rfl⟩
  ·rw [h0]
   refine ae.mkB (EL (n + 1) x _ hsm (by omega)) (fun hm=>?_) (fun hm=>?_)
   ·rw [hm]
    obtain⟨T',tk,_,k2,k3⟩:=Jx (n + 12) x from_ by_ false [] hsz (by omega)
    refine ae.mk _ _ k3 ?_
    cases hh:(dk (dg by_) x false from_).2 with
    | true=>exact⟨_,rfl⟩
    | false=>
     refine ae.mk _ _ (Oh (n + 11) x from_ by_ _ hsz (by omega)) ?_
     refine ae.mk _ _ (Og n (aZ x from_ by_) _ RG h2) ?_
     exact⟨_,rfl⟩
   ·rw [hm]
    exact⟨_,rfl⟩
 obtain⟨S',this⟩:=this
 exact bC this (by simp only [bh,bf,an]) rfl rfl rfl rfl (uU _)
mutual
noncomputable def dz:Tm→Tm→Bool
 | .mk k n s _ _ _ _ ls ts,b=>(iEq k b.k && iEq n b.n && decide (s=b.s) && iEq (.ofNat (aH (ls.map enc))) (.ofNat (aH (b.ls.map enc))) && iEq (.ofNat (aH (ag ts))) (.ofNat (aH (ag b.ts)))) && (decide (ls=b.ls) && iV ts b.ts)
noncomputable def iV:List Tm→List Tm→Bool
 | [],_=>true
 | t::ts,u::us=>dz t u && iV ts us
 | _::_,[]=>false
end
theorem sS (a b:Tm):dz a b=((iEq a.k b.k && iEq a.n b.n && decide (a.s=b.s) && iEq (.ofNat (aH (a.ls.map enc))) (.ofNat (aH (b.ls.map enc))) && iEq (.ofNat (aH (ag a.ts))) (.ofNat (aH (ag b.ts)))) && (decide (a.ls=b.ls) && iV a.ts b.ts)):=by cases a;rw [dz];rfl
theorem fQ {a b:Nat}:iEq (.ofNat a) (.ofNat b)=decide (a=b):=by
 show Nat.beq a b=decide (a=b)
 rw [Bool.eq_iff_iff,Nat.beq_eq,decide_eq_true_eq]
noncomputable def RH:Code:=jP Tryz.f27 0
noncomputable def RI:Code:=jP Tryz.f27 1
theorem Jy (R:Run) (k:Nat) (a b:Tm) (S:St) (K:Ex→Env→St→Prop) (hlen:a.ls.length≤9223372036854775807) :
 ∀(ra rb:List Lv) (j f:Nat),ra.length < f→ra.length=rb.length→(∀i,ra[i]?=a.ls[j + i]?)→(∀i,rb[i]?=b.ls[j + i]?)→j + ra.length=a.ls.length→
 (ra=rb→K (.exit 0) { nt:=81,tmps:=[(2,.ptr (.loc 2) 0),(3,.ptr (.loc 3) 0),(5,.int .i64 (.ofNat a.ls.length)),(48,.bool false)],locs:=[(2,aC a),(3,aC b)],fix:=[] } S)→
 (ra≠rb→K .ret { nt:=81,tmps:=[(4,.bool false)],locs:=[(2,aC a),(3,aC b)],fix:=[] } S)→
 aD (iter (evalCode Tryz.cfg R k 27 (Tryz.cfg.fc 27) RH) f { nt:=81,tmps:=[(2,.ptr (.loc 2) 0),(3,.ptr (.loc 3) 0),(5,.int .i64 (.ofNat j))],locs:=[(2,aC a),(3,aC b)],fix:=[] } S) K
 | [],[],j,f + 1,hf,_,hra,hrb,hj,hK,hN=>by
  have hjl:j=a.ls.length:=by simpa using hj
  subst hjl
  refine aD.round (nt:=81) (fx:=[]) ?_
  refine ah.no (A9 (by omega)) ?_
  exact hK rfl
 | x::ra,y::rb,j,f + 1,hf,he,hra,hrb,hj,hK,hN=>by
  have ha:a.ls[j]?=some x:=by have:=hra 0;simpa using this.symm
  have hb:b.ls[j]?=some y:=by have:=hrb 0;simpa using this.symm
  have hjl:j < a.ls.length:=(aGs ha).1
  refine aD.round (nt:=81) (fx:=[]) ?_
  refine ah.yes (A8 hjl) ?_
  refine ab.mk _ (sP ha) ?_
  refine ab.mk _ (sP hb) ?_
  refine ab.mkB (Jq x y) (fun h=>?_) (fun h=>?_)
  ·exact hN (fun e=>by cases e;simp at h)
  ·have hxy:x=y:=by simpa using h
   refine ab.mk _ (az (T:=3) (j:=j) (by omega)) ?_
   exact Jy R k a b S K hlen ra rb (j + 1) f (by simp only [aLc] at hf;omega) (by simpa using he) (fun i=>by have:=hra (i + 1);simp only [List.getElem?_cons_succ] at this;rw [this];congr 1;omega) (fun i=>by have:=hrb (i + 1);simp only [List.getElem?_cons_succ] at this;rw [this];congr 1;omega) (by simp only [aLc] at hj;omega)
    (fun e=>hK (by rw [e,hxy])) (fun e=>hN (fun e2=>e (by cases e2;rfl)))
 | [],_::_,j,f + 1,_,he,_,_,_,_,_=>by cases he
 | _::_,[],j,f + 1,_,he,_,_,_,_,_=>by cases he
theorem Jz (n k:Nat) (a b:Tm) (S:St) (K:Ex→Env→St→Prop) (hlen:a.ts.length < 1000000000)
 (dt:∀y∈a.ts,∀z S,RN n (.f 27) [aB y,aB z] S=some (.bool (dz y z),S)) :
 ∀(ra rb:List Tm) (j f:Nat),ra.length < f→ra.length=rb.length→(∀i,ra[i]?=a.ts[j + i]?)→(∀i,rb[i]?=b.ts[j + i]?)→j + ra.length=a.ts.length→
 (iV ra rb=true→K (.exit 2) { nt:=81,tmps:=[(2,.ptr (.loc 2) 0),(3,.ptr (.loc 3) 0),(6,.int .i64 (.ofNat a.ts.length)),(66,.bool false)],locs:=[(2,aC a),(3,aC b)],fix:=[] } S)→
 (iV ra rb=false→K .ret { nt:=81,tmps:=[(4,.bool false)],locs:=[(2,aC a),(3,aC b)],fix:=[] } S)→
 aD (iter (evalCode Tryz.cfg (RN n) k 27 (Tryz.cfg.fc 27) RI) f { nt:=81,tmps:=[(2,.ptr (.loc 2) 0),(3,.ptr (.loc 3) 0),(6,.int .i64 (.ofNat j))],locs:=[(2,aC a),(3,aC b)],fix:=[] } S) K
 | [],[],j,f + 1,hf,_,hra,hrb,hj,hK,hN=>by
  have hjl:j=a.ts.length:=by simpa using hj
  subst hjl
  refine aD.round (nt:=81) (fx:=[]) ?_
  refine ah.no (gJ (by omega)) ?_
  exact hK (by rw [iV])
 | x::ra,y::rb,j,f + 1,hf,he,hra,hrb,hj,hK,hN=>by
  have ha:a.ts[j]?=some x:=by have:=hra 0;simpa using this.symm
  have hb:b.ts[j]?=some y:=by have:=hrb 0;simpa using this.symm
  have hjl:j < a.ts.length:=(aGs ha).1
  rw [iV] at hK hN
  refine aD.round (nt:=81) (fx:=[]) ?_
  refine ah.yes (gI hjl) ?_
  refine ab.mk _ (bz ha) ?_
  refine ab.mk _ (bz hb) ?_
  refine ae.mkB (dt x (aMg ha) y _) (fun h=>?_) (fun h=>?_)
  ·rw [h,Bool.true_and] at hK hN
   refine ab.mk _ (az (T:=3) (j:=j) (by omega)) ?_
   exact Jz n k a b S K hlen dt ra rb (j + 1) f (by simp only [aLc] at hf;omega) (by simpa using he) (fun i=>by have:=hra (i + 1);simp only [List.getElem?_cons_succ] at this;rw [this];congr 1;omega) (fun i=>by have:=hrb (i + 1);simp only [List.getElem?_cons_succ] at this;rw [this];congr 1;omega) (by simp only [aLc] at hj;omega) hK hN
  ·exact hN (by rw [h];rfl)
 | [],_::_,j,f + 1,_,he,_,_,_,_,_=>by cases he
 | _::_,[],j,f + 1,_,he,_,_,_,_,_=>by cases he
theorem EN:∀(n:Nat) (a b:Tm) (S:St),Sm a→eu a < 1000000000→wt a < n→RN n (.f 27) [aB a,aB b] S=some (.bool (dz a b),S)
 | 0,a,b,S,_,_,h=>by omega
 | n + 1,a,b,S,hsm,hsz,h=>by
  have hw:=cO a
  have hwl:=iz a.ts
  have hlen:a.ts.length < 1000000000:=by have:=iU a.ts;rw [eQ] at hsz;omega
  have:frame Tryz.cfg (RN n) n 27 [aB a,aB b] St.empty=some (.bool (dz a b),St.empty):=by
   refine aO Tryz.cfg _ (fn:=Tryz.f27) rfl rfl ?_
   rw [sS]
   refine ah.mk (fun h1=>?_) (fun h1=>?_)
   ·exact rfB (by simp only [Bool.not_eq_true'] at h1;rw [h1];rfl)
   simp only [Bool.not_eq_false'] at h1
   rw [h1]
   refine ah.mk (fun h2=>?_) (fun h2=>?_)
   ·exact rfB (by simp only [Bool.not_eq_true'] at h2;rw [h2];rfl)
   simp only [Bool.not_eq_false'] at h2
   rw [h2]
   refine ab.mkB uT (fun h3=>?_) (fun h3=>?_)
   ·exact rfB (by simp only [Bool.not_eq_true'] at h3;rw [h3];rfl)
   simp only [Bool.not_eq_false'] at h3
   rw [h3]
   refine ah.mk (fun h4=>?_) (fun h4=>?_)
   ·exact rfB (by simp only [Bool.not_eq_true'] at h4;rw [h4];rfl)
   simp only [Bool.not_eq_false'] at h4
   rw [h4]
   refine ah.mk (fun h5=>?_) (fun h5=>?_)
   ·exact rfB (by simp only [Bool.not_eq_true'] at h5;rw [h5];rfl)
   simp only [Bool.not_eq_false'] at h5
   rw [h5]
   rw [fQ,decide_eq_true_eq,aq,aq,aLm,aLm] at h4
   rw [fQ,decide_eq_true_eq,ak,ak] at h5
   refine Jy _ n a b _ _ ((hV a).1 hsm).1.1 a.ls b.ls 0 n (by omega) h4 (fun i=>by rw [Nat.zero_add]) (fun i=>by rw [Nat.zero_add]) (by rw [Nat.zero_add]) (fun h6=>?_) (fun h6=>?_)
   ·refine Jz n n a b _ _ hlen (fun y hy z S=>EN n y z S (((hV a).1 hsm).2 y hy) (by have:=pT hy;omega) (by have:=cT hy;omega)) a.ts b.ts 0 n (by omega) h5 (fun i=>by rw [Nat.zero_add]) (fun i=>by rw [Nat.zero_add]) (by rw [Nat.zero_add]) (fun h7=>?_) (fun h7=>?_)
    ·exact rfB (by simp [h6,h7])
    ·exact rfB (by simp [h6,h7])
   ·exact rfB (by simp [h6])
  exact bC this (by simp only [bh,an]) rfl rfl rfl rfl rfl
theorem xk (x:Tm):dz x x=true:=by
 induction x using Tm.ind with
 | h x ih=>
  have:∀ts:List Tm,(∀y∈ts,dz y y=true)→iV ts ts=true:=by
   intro ts
   induction ts with
   | nil=>intro _;rw [iV]
   | cons t ts ih2=>intro h;rw [iV,h t aMs,ih2 (fun y hy=>h y (aMt _ hy))];rfl
  rw [sS,this x.ts ih,fQ,fQ]
  simp [bW]
theorem xm {p:Tm→Bool} {d:Nat}:∀{ts:List Tm} {l r:Nat},dO p ts l d=some r→∀y∈ts,∃l' r',dv p y l' d=some r'
 | [],l,r,_,y,hy=>by cases hy
 | t::ts,l,r,h,y,hy=>by
  rw [eX] at h
  split at h
  ·rename_i l' h1
   cases hy with
   | head=>exact⟨_,_,h1⟩
   | tail _ hy=>exact xm h y hy
  ·cases h
theorem j0 {p:Tm→Bool} {x:Tm} {l d r:Nat} (h:dv p x l d=some r):∃l' d',l=l' + 1∧d=d' + 1∧p x=true∧dO p x.ts l' d'=some r:=by
 rw [jD] at h
 split at h
 ·rename_i l' d'
  split at h
  ·rename_i hp;exact⟨l',d',rfl,rfl,hp,h⟩
  ·cases h
 ·cases h
theorem xn {p:Tm→Bool} {P:Tm→Nat→Prop} (h:∀x d,p x=true→(∀y∈x.ts,P y d)→P x (d + 1)) (x:Tm):∀{l d r:Nat},dv p x l d=some r→P x d:=by
 induction x using Tm.ind with
 | h x ih=>
  intro l d r hs
  obtain⟨l',d',rfl,rfl,hp,hts⟩:=j0 hs
  refine h x d' hp (fun y hy=>?_)
  obtain⟨l2,r2,h2⟩:=xm hts y hy
  exact ih y hy h2
theorem zx {p:Tm→Bool} (x:Tm):∀{l d r:Nat},dv p x l d=some r→r + eu x=l:=by
 induction x using Tm.ind with
 | h x ih=>
  intro l d r hs
  obtain⟨l',d',rfl,rfl,hp,hts⟩:=j0 hs
  have key:∀(ts:List Tm),(∀y∈ts,y∈x.ts)→∀{l r},dO p ts l d'=some r→r + gP ts=l:=by
   intro ts
   induction ts with
   | nil=>intro _ l r h;rw [dO] at h;cases h;rw [gP];rfl
   | cons t ts ih2=>
    intro hm l r h
    rw [eX] at h
    split at h
    ·rename_i l1 h1
     have:=ih t (hm t aMs) h1
     have:=ih2 (fun y hy=>hm y (aMt _ hy)) h
     rw [gf]
     omega
    ·cases h
  have:=key x.ts (fun _ h=>h) hts
  rw [eQ]
  omega
theorem zy {p q:Tm→Bool} (hpq:∀x,p x=true→q x=true) (x:Tm):∀{l d r l2 d2:Nat},dv p x l d=some r→l≤l2→d≤d2→dv q x l2 d2=some (r + (l2 - l)):=by
 induction x using Tm.ind with
 | h x ih=>
  intro l d r l2 d2 hs hl hd
  obtain⟨l',d',rfl,rfl,hp,hts⟩:=j0 hs
  obtain⟨m,rfl⟩ : ∃m,l2=m + 1:=⟨l2 - 1,by omega⟩
  obtain⟨e,rfl⟩ : ∃e,d2=e + 1:=⟨d2 - 1,by omega⟩
  rw [jD]
  simp only
  rw [hpq x hp]
  simp only
  have key:∀(ts:List Tm),(∀y∈ts,y∈x.ts)→∀{l r l2},dO p ts l d'=some r→l≤l2→dO q ts l2 e=some (r + (l2 - l)):=by
   intro ts
   induction ts with
   | nil=>intro _ l r l2 h hl;rw [dO] at h ⊢;cases h;congr 1;omega
   | cons t ts ih2=>
    intro hm l r l2 h hl
    rw [eX] at h ⊢
    split at h
    ·rename_i l1 h1
     have h3:=sQ _ _ h1
     have h4:=ih t (hm t aMs) h1 hl (by omega:d'≤e)
     have h5:=ih2 (fun y hy=>hm y (aMt _ hy)) h (by omega:l1≤l1 + (l2 - l))
     rw [h4]
     simp only
     rw [h5]
     congr 1
     omega
    ·cases h
  have:=key x.ts (fun _ h=>h) hts (by omega:l'≤m)
  rw [this]
  congr 1
  omega
theorem me {x:Tm} (h:cL x=true):∃r,dv bm x 65536 4096=some r:=by
 unfold cL at h
 exact Option.isSome_iff_exists.1 h
theorem GD {a b:Nat} (h:a≤b):Nat.ble a b=true:=Nat.ble_eq_true_of_le h
theorem xo {x:Tm} (h:bm x=true):jh x=true:=by
 unfold bm at h
 simp only [Bool.and_eq_true] at h
 have h1:=h.2.2
 unfold lz at h1
 unfold jh
 have e:∀m:Nat,iEq (.ofNat (aH (x.ls.map enc))) (.ofNat m)=true→x.ls.length=m:=fun m hm=>by
  rw [fQ,aq,aLm,decide_eq_true_eq] at hm;exact hm
 refine GD ?_
 cases h2:iEq x.k 1 with
 | true=>rw [h2] at h1;have:=e 1 h1;omega
 | false=>
  rw [h2] at h1
  cases h3:iEq x.k 3 with
  | true=>
   rw [h3] at h1
   have h4:Nat.blt 4 (aH (x.ls.map enc))=false:=by
    have h5:(!Nat.blt 4 (aH (x.ls.map enc)))=true:=h1
    simpa using h5
   rw [aq,aLm] at h4
   by_cases h6:4 < x.ls.length
   ·rw [dj h6] at h4;cases h4
   ·omega
  | false=>rw [h3] at h1;have:=e 0 h1;omega
theorem JA {x:Tm} (h:cL x=true):ld x=false:=by
 obtain⟨r,hr⟩:=me h
 have:=zy (q:=jh) (fun x h=>xo h) x hr (by omega:65536≤131072) (by omega:4096≤8192)
 unfold ld
 rw [this]
 rfl
theorem kH {x:Tm} (h:cL x=true):eu x≤65536:=by
 obtain⟨r,hr⟩:=me h
 have:=zx x hr
 omega
theorem qy {x:Tm} (h:ld x=false):eu x≤131072:=by
 unfold ld at h
 cases hs:dv jh x 131072 8192 with
 | none=>rw [hs] at h;cases h
 | some r=>have:=zx x hs;omega
def uV (x y:Tm):Prop:=wt y=wt x∧(Sm x→Sm y)∧eu y=eu x
theorem uV.refl (x:Tm):uV x x:=⟨rfl,id,rfl⟩
theorem Dd (x:Tm) (n:Int):uV x (x.zu n):=by
 cases x
 refine⟨?_,?_,?_⟩
 ·rw [cO,cO];rfl
 ·intro h;rw [hV] at h ⊢;exact h
 ·rw [eQ,eQ];rfl
theorem EO {σ:Type} {step:σ→Tm→Int→Tm×σ} (hs:∀s x a,uV x (step s x a).1) (x:Tm):∀s a,uV x (dk step x s a).1:=by
 induction x using Tm.ind with
 | h x ih=>
  intro s a
  rw [jG]
  cases h2:iEq x.k 2 with
  | true=>exact hs s x a
  | false=>
   have key:∀(ts:List Tm),(∀y∈ts,y∈x.ts)→∀i s,wts (cn step x.k ts i s a).1=wts ts∧((∀y∈ts,Sm y)→∀y∈(cn step x.k ts i s a).1,Sm y)∧gP (cn step x.k ts i s a).1=gP ts:=by
    intro ts
    induction ts with
    | nil=>intro _ i s;rw [cn];exact⟨rfl,fun h=>h,rfl⟩
    | cons t ts ih2=>
     intro hm i s
     rw [cn]
     obtain⟨a1,a2,a3⟩:=ih t (hm t aMs) s (dT a (bq x.k (.ofNat i)))
     obtain⟨b1,b2,b3⟩:=ih2 (fun y hy=>hm y (aMt _ hy)) (i + 1) (dk step t s (dT a (bq x.k (.ofNat i)))).2
     refine⟨?_,?_,?_⟩
     ·rw [wts,wts,a1,b1]
     ·intro h y hy
      cases hy with
      | head=>exact a2 (h t aMs)
      | tail _ hy=>exact b2 (fun z hz=>h z (aMt _ hz)) y hy
     ·rw [gf,gf,a3,b3]
   obtain⟨k1,k2,k3⟩:=key x.ts (fun _ h=>h) 0 s
   show uV x (x.mN _)
   refine⟨?_,?_,?_⟩
   ·rw [cO,cO x];show 1 + x.s.length + x.ls.length + wts (cn step x.k x.ts 0 s a).1=_;rw [k1]
   ·intro h
    rw [hV] at h ⊢
    exact⟨h.1,k2 h.2⟩
   ·rw [eQ,eQ x];show 1 + gP (cn step x.k x.ts 0 s a).1=_;rw [k3]
theorem EP (x:Tm) (a b:Int):uV x (aZ x a b):=EO (fun s x a=>by
 unfold ch
 cases (!iLt x.n a) with
 | true=>exact Dd x _
 | false=>exact uV.refl x) x () a
theorem zz (k i:Int):bq k i=0∨bq k i=1:=by
 unfold bq
 cases ((iEq k 5 || iEq k 6) && iEq i 1)<;>cases (iEq k 7 && iEq i 2)<;>simp
theorem gy {z:Int} (h : -9223372036854775808≤z) (h2:z≤9223372036854775807):eH .i64 z=z:=by
 cases z with
 | ofNat m=>exact xe (by simp) h2
 | negSucc m=>
  show (bif Nat.ble m 9223372036854775807 then Int.negSucc m else _)=_
  rw [show Nat.ble m 9223372036854775807=true from GD (by omega)]
  rfl
theorem LY {a b:Int} (h : -9223372036854775808≤a + b) (h2:a + b≤9223372036854775807):dT a b=a + b:=gy h h2
theorem LZ {a b:Int} (h : -9223372036854775808≤a - b) (h2:a - b≤9223372036854775807):vo a b=a - b:=gy h h2
theorem ER {σ:Type} {f g:σ→Tm→Int→Tm×σ} {B:Int} (hB:B≤9223372036854775807) (hfg:∀s v a,iEq v.k 2=true→bm v=true→0≤a→a≤B→f s v a=g s v a) (x:Tm) {l d r:Nat} (h:dv bm x l d=some r) :
 ∀(s:σ) (a:Int),0≤a→a + d≤B→dk f x s a=dk g x s a:=by
 refine xn (P:=fun x d=>∀(s:σ) (a:Int),0≤a→a + d≤B→dk f x s a=dk g x s a) (fun x d hp ih s a h0 hd=>?_) x h
 rw [jG,jG]
 cases h2:iEq x.k 2 with
 | true=>exact hfg s x a h2 hp h0 (by omega)
 | false=>
  have key:∀(ts:List Tm),(∀y∈ts,y∈x.ts)→∀i s,cn f x.k ts i s a=cn g x.k ts i s a:=by
   intro ts
   induction ts with
   | nil=>intro _ i s;rw [cn,cn]
   | cons t ts ih2=>
    intro hm i s
    have hb:=zz x.k (.ofNat i)
    have e:dT a (bq x.k (.ofNat i))=a + bq x.k (.ofNat i):=LY (by rcases hb with h | h<;>omega) (by rcases hb with h | h<;>omega)
    rw [cn,cn,ih t (hm t aMs) s _ (by rw [e];rcases hb with h | h<;>omega) (by rw [e];rcases hb with h | h<;>omega)]
    rw [ih2 (fun y hy=>hm y (aMt _ hy))]
  rw [key x.ts (fun _ h=>h) 0 s]
  rfl
theorem xp {x:Tm} (h:bm x=true) (h2:iEq x.k 2=true):0≤x.n∧x.n≤1048576:=by
 unfold bm at h
 simp only [Bool.and_eq_true] at h
 have h1:=h.2.1.2
 unfold kR at h1
 rw [h2] at h1
 simp only [cond_true,Bool.and_eq_true,Bool.not_eq_true',sO] at h1
 exact h1
end Go.Ev
