/- Contracts of functions, and plain facts, for the law that the last text of this claim proves. -/
import Derived.Laws.Rows
import Derived.Test.YtakcdebpklffiaaGreatDoorM1
import Derived.RangeFuncIn
import Derived.RangeFuncNested
import Derived.Laws.MakeOwn
set_option linter.unusedSimpArgs false
set_option linter.unusedVariables false
namespace Go.Sei
def els (s:Nat):List Nat:=(List.range 64).filter fun i=>s.testBit i
def ctz (s:Nat):Nat:=(els s).headD 64
def qM (s:Nat):Nat:=s&&&(s-1)
theorem zjO{s:Nat}(h:s≠0):∃k m,s=2^k*(2*m+1):=by
 induction s using Nat.strongRecOn with
 | _ s ih =>
  by_cases a:s%2=1
  ·exact⟨0,s/2,by rw[Nat.pow_zero,UY];omega⟩
  ·obtain⟨k,m,e⟩:=ih (s/2) (by omega) (by omega);refine⟨k+1,m,?_⟩;rw[Nat.pow_succ,UM (2^k) 2,UC,<- e];omega
theorem zeo(k a j:Nat):(2^k*a).testBit j=(decide (k<=j)&&a.testBit (j-k)):=by
 rw[Nat.testBit_two_pow_mul]
theorem zf4(m j:Nat):(2*m+1).testBit j=match j with | 0=>true | j+1=>m.testBit j:=by
 cases j with
 | zero=>rw [Nat.testBit_zero];simp
 | succ j=>rw [Nat.testBit_succ];congr 1;omega
theorem znr(m j:Nat):(2*m).testBit j=match j with | 0=>false | j+1=>m.testBit j:=by
 cases j with
 | zero=>rw [Nat.testBit_zero];simp
 | succ j=>rw [Nat.testBit_succ];congr 1;omega
theorem zn2(k m:Nat):qM (2^k*(2*m+1))=2^k*(2*m):=by
 unfold qM;apply Kc;intro j;have b:=QZ k;have e:2^k*(2*m+1)-1=2^k*(2*m)+(2^k-1):=by rw[Nat.mul_add,UX];omega
 rw[QY,e,Nat.testBit_two_pow_mul_add _ (by omega),zeo,zeo];by_cases a:j<k
 ·rw[Gn a];have:¬k<=j:=by omega
  simp[this]
 ·rw[Gm a,zf4,znr];have:k<=j:=by omega
  cases h:j-k with
  | zero=>simp
  | succ i=>simp [this]
theorem ziH{n k m:Nat}(hn:0<n)(h:2^k*(2*m+1)<2^n):(2^k*(2*m+1))&&&(2^n-2^k*(2*m+1))=2^k:=by
 have c:k<n:=by
  apply Qw;intro c;have g:2^n<=2^k:=Ke (by decide) c;have l:2^k*1<=2^k*(2*m+1):=Nat.mul_le_mul_left _ (by omega);omega
 have g:=QZ k;have a:2^n=2^k*2^(n-k):=by rw[<- Nat.pow_add];congr 1;omega
 have f:2^(n-k)=2*2^(n-1-k):=by rw[<- Nat.pow_succ'];congr 1;omega
 have o:2*m+1<2^(n-k):=by
  rw[a] at h;exact Nat.lt_of_mul_lt_mul_left h
 have b:m<2^(n-1-k):=by omega
 have e:2^n-2^k*(2*m+1)=2^k*(2*(2^(n-1-k)-(m+1))+1):=by
  rw[a,<- Nat.mul_sub];congr 1;omega
 rw[e];apply Kc;intro j;rw[QY,zeo,zeo,zf4,zf4,Kq];by_cases d:k<=j
 ·cases h:j-k with
  | zero =>
   have:k=j:=by omega
   simp[this]
  | succ i =>
   have:k≠j:=by omega
   show((decide (k<=j)&&m.testBit i)&&(decide (k<=j)&&(2^(n-1-k)-(m+1)).testBit i))=decide (k=j);rw[Nat.testBit_two_pow_sub_succ b]
   cases m.testBit i <;> simp[this]
 ·have:k≠j:=by omega
  simp[d,this]
theorem zj4{k m:Nat}(h:2^k*(2*m+1)<2^64):(2^k*(2*m+1))&&&(2^64-2^k*(2*m+1))=2^k:=ziH (by decide) h
theorem zhf{p:Nat->Bool}{n k:Nat}(hk:k<n)(h1:∀i,i<k->p i=false)(h2:p k=true) :
  (List.range n).filter p=k::(List.range n).filter (fun i=>p i&&decide (i≠k)):=by
 have e:List.range n=List.range k++k::(List.range (n-k-1)).map (fun i=>k+1+i):=by
  apply List.ext_getElem
  ·simp;omega
  ·intro i h1 h2;rw[Kz];by_cases a:i<k
   ·rw[List.getElem_append_left (by simpa using a)];simp
   ·obtain⟨j,rfl⟩:∃j,i=k+j:=⟨i-k,by omega⟩;rw[List.getElem_append_right (by simp)];simp only[KU,Jw]
    cases j with
    | zero=>simp
    | succ j=>simp;omega
 rw[e,Kw,Kw,Qk,Qk];have c:(List.range k).filter p=[]:=by
  rw[JB];intro i a;rw[h1 i (Ul.1 a)];decide
 have d:(List.range k).filter (fun i=>p i&&decide (i≠k))=[]:=by
  rw[JB];intro i a;rw[h1 i (Ul.1 a)];simp
 rw[c,d,h2];simp only[QQ,Gl,ne_eq,Qa,UU,Uf,Ku,Gj];congr 1;apply KQ;intro x b;obtain⟨i,_,rfl⟩:=UI.1 b;have:k+1+i≠k:=by omega
 simp[this]
theorem j5{s:Nat}(h0:s≠0)(h:s<2^64):els s=ctz s::els (qM s)/\qM s<s/\s&&&(2^64-s)=2^ctz s/\ctz s<64:=by
 obtain⟨k,m,e⟩:=zjO h0;subst e;have l:=QZ k;have a:k<64:=by
  apply Qw;intro a;have g:2^64<=2^k:=Ke (by decide) a;have n:2^k*1<=2^k*(2*m+1):=Nat.mul_le_mul_left _ (by omega);omega
 have c:els (2^k*(2*m+1))=k::els (2^k*(2*m)):=by
  unfold els;rw[zhf a]
  ·congr 1;apply KQ;intro i _;rw[zeo,zeo,zf4,znr]
   cases d:i-k with
   | zero =>
    by_cases b:k<=i
    ·have:i=k:=(by omega);simp[this]
    ·simp[b]
   | succ j =>
    have:i≠k:=(by omega);simp[this]
  ·intro i d;rw[zeo];have:¬k<=i:=by omega
   simp[this]
  ·rw[zeo,zf4];simp
 have f:ctz (2^k*(2*m+1))=k:=by unfold ctz;rw[c];rfl
 rw[f,zn2];refine⟨c,?_,zj4 h,a⟩;rw[Nat.mul_add,UX];omega
theorem zi9{s:Nat}(h0:s≠0)(h:s<2^32):s&&&(2^32-s)=2^ctz s/\ctz s<32:=by
 obtain⟨i,_,g,j⟩:=j5 h0 (nL h (by decide));have a:ctz s<32:=by
  have b:ctz s∈els s:=by rw[i];exact KA
  unfold els at b;have c:=(QO.1 b).2;apply Qw;intro a;have:=JF (nL h (Ke (by decide) a));rw[this] at c;cases c
 refine⟨?_,a⟩;obtain⟨k,m,e⟩:=zjO h0;have d:s&&&(2^64-s)=2^k:=by rw[e] at h ⊢;exact zj4 (nL h (by decide))
 have f:s&&&(2^32-s)=2^k:=by rw[e] at h ⊢;exact ziH (by decide) h
 rw[f,<- d,g]
theorem zaC:els 0=[]:=by
 unfold els;rw[JB];intro i _;simp
theorem zox{s i:Nat}(h:i∈els s):i<64:=by
 unfold els at h;exact Ul.1 (QO.1 h).1
theorem jf{s i:Nat}:i∈els s↔i<64/\s.testBit i=true:=by
 unfold els;rw[QO,Ul]
structure Ev where
 th:Int
 k:UInt8
 l:UInt8
 v:UInt8
 m:UInt8
 i:UInt8
 p:UInt8
 deriving DecidableEq
def upd {α:Type} (f:Nat->α) (i:Nat) (v:α):Nat->α:=fun j=>if j=i then v else f j
theorem zN{α:Type}(f:Nat->α)(i:Nat)(v:α):upd f i v i=v:=by unfold upd;rw[Gn rfl]
theorem qx{α:Type}(f:Nat->α){i j:Nat}(v:α)(h:j≠i):upd f i v j=f j:=by unfold upd;rw[Gm h]
structure RunD where
 pc:Nat
 regs:Nat->UInt8
 deps:Nat->Nat
 ctl:Nat
 many:Nat
 ev:Nat->Ev
 data:Nat->Nat
 ctrl:Nat->Nat
 att:Nat->Nat
def ev0:Ev:=⟨0,0,0,0,0,0,0⟩
def zjx:RunD:=⟨0,fun _=>0,fun _=>0,0,0,fun _=>ev0,fun _=>0,fun _=>0,fun _=>0⟩
def qE (r:Bool) (n:UInt8) (R:RunD):UInt8×Nat:=if r then(R.regs n.toNat,R.deps n.toNat) else(n,0)
def zkR (R:RunD) (d v:UInt8) (s:Nat):RunD:={ R with regs:=upd R.regs d.toNat v,deps:=upd R.deps d.toNat s }
def jF (R:RunD) (k l v m:UInt8) (d:Nat):RunD :=
 { R with ev:=upd R.ev R.many ⟨0,k,l,v,m,UInt8.ofNat R.pc,UInt8.ofNat R.many⟩,data:=upd R.data R.many d,ctrl:=upd R.ctrl R.many R.ctl,many:=R.many+1 }
def zsU (R:RunD) (x:InsD) (v:UInt8):RunD:=zkR (jF R 1 x.loc v x.mode 0) x.dst v (2^R.many)
def znL (R:RunD) (x:InsD):RunD:=jF R 2 x.loc (qE x.ar x.an R).1 x.mode (qE x.ar x.an R).2
def zkx (fn a b:UInt8):UInt8:=if fn=1 then a+b else if fn=2 then a-b else a ^^^ b
def zsP (R:RunD) (x:InsD):RunD:=zkR R x.dst (zkx x.fn (qE x.ar x.an R).1 (qE x.br x.bn R).1) ((qE x.ar x.an R).2|||(qE x.br x.bn R).2)
def zbt (R:RunD) (x:InsD) (old v:UInt8) (d:Nat):RunD :=
 let S:=jF (jF R 1 x.loc old 3 0) 2 x.loc v 3 d
 zkR { S with att:=upd S.att (R.many+1) (2^R.many) } x.dst old (2^R.many)
def zsa (R:RunD) (x:InsD) (v:UInt8):RunD:=zbt R x v (qE x.ar x.an R).1 (qE x.ar x.an R).2
def zgL (R:RunD) (x:InsD) (v:UInt8):RunD :=
 let S:=zbt R x v (v+(qE x.ar x.an R).1) (qE x.ar x.an R).2
 { S with data:=upd S.data (R.many+1) (S.data (R.many+1)|||S.att (R.many+1)) }
def zel (R:RunD) (x:InsD) (v:UInt8):RunD :=
 if v=(qE x.ar x.an R).1 then
  let S:=zbt R x v (qE x.br x.bn R).1 (qE x.br x.bn R).2
  { S with ctrl:=upd S.ctrl (R.many+1) (S.ctrl (R.many+1)|||(S.att (R.many+1)|||(qE x.ar x.an R).2)) }
 else zkR (jF R 1 x.loc v 3 0) x.dst v (2^R.many)
def zot (R:RunD) (x:InsD):RunD:=jF R 3 0 0 x.mode 0
def zlX (fn a b:UInt8):Bool:=if fn=4 then decide (a=b) else if fn=5 then !decide (a=b) else decide (a.toNat<b.toNat)
def zb0 (R:RunD) (x:InsD):RunD :=
 let S:={ R with ctl:=R.ctl|||((qE x.ar x.an R).2|||(qE x.br x.bn R).2) }
 if zlX x.fn (qE x.ar x.an R).1 (qE x.br x.bn R).1 then{ S with pc:=R.pc+x.skip.toNat } else S
def zdO (R:RunD) (x:InsD) (v:UInt8):RunD :=
 if x.op=1 then zsU R x v else if x.op=2 then znL R x else if x.op=3 then zsP R x else if x.op=4 then zsa R x v else
 if x.op=5 then zgL R x v else if x.op=6 then zel R x v else if x.op=7 then zot R x else zb0 R x
def zY (R:RunD) (x:InsD) (v:UInt8):RunD:=let S:=zdO R x v;{ S with pc:=S.pc+1 }
def zae (x:InsD):Bool:=decide (x.op=1)||(decide (x.op=4)||(decide (x.op=5)||decide (x.op=6)))
def goR (l:List InsD):Nat->RunD->RunD
 | 0,R=>R
 | n+1,R=>match l[R.pc]? with
  | none=>R
  | some x=>if zae x then R else goR l n (zY R x 0)
def zT (l:List InsD) (dom:List UInt8):Nat->RunD->List RunD
 | 0,R=>[goR l l.length R]
 | n+1,R=>match l[(goR l l.length R).pc]? with
  | none=>[goR l l.length R]
  | some x=>dom.flatMap fun v=>zT l dom n (zY (goR l l.length R) x v)
def qB (l:List InsD) (dom:List UInt8):List RunD:=zT l dom l.length zjx
def zdz (f:Nat->Nat) (n:Nat):List (Nat×Nat):=(List.range n).flatMap fun i=>(els (f i)).map fun a=>(a,i)
structure PathD where
 ev:List Ev
 data:List (Nat×Nat)
 ctrl:List (Nat×Nat)
 rmw:List (Nat×Nat)
 regs:Nat->UInt8
def jN (R:RunD):PathD:=⟨(List.range R.many).map R.ev,zdz R.data R.many,zdz R.ctrl R.many,zdz R.att R.many,R.regs⟩
def qh:List UInt8:=(List.range 256).map UInt8.ofNat
def ju (l:List UInt8):List UInt8:=qh.filter fun v=>l.any fun x=>decide (x=v)
def zaF (rs:List RunD):List UInt8:=qh.filter fun v=>rs.any fun R=>(List.range R.many).any fun i=>decide ((R.ev i).k=2)&&decide ((R.ev i).v=v)
def zaB (threads:List (List InsD)) (vals:List UInt8):List UInt8:=ju (vals++threads.flatMap fun l=>zaF (qB l vals))
structure RelD where
 n:Int
 to:Nat->Nat
def zC:RelD:=⟨0,fun _=>0⟩
def zal (n:Int):Nat:=if n<1 then 0 else if 64<=n then 18446744073709551615 else 2^n.toNat-1
def jU (a b:Nat):Nat:=a&&&(18446744073709551615-b)
def zcj (r:RelD) (a:Nat):Bool:=decide (jU (r.to a) (zal r.n)=0)&&(decide ((a:Int)<r.n)||decide (r.to a=0))
def okR (r:RelD):Bool:=decide (0<=r.n)&&(decide (r.n<=48)&&(List.range 48).all (zcj r))
def jT (n:Nat) (f:Nat->Nat):RelD:=⟨n,fun i=>if i<n then f i else 0⟩
def zea (to:Nat->Nat) (s:Nat):Nat:=(els s).foldl (fun t a=>t|||to a) 0
def za0 (to:Nat->Nat) (n:Nat):Nat->Nat:=(List.range n).foldl (fun f a=>(els (to a)).foldl (fun f b=>upd f b (f b|||2^a)) f) (fun _=>0)
def z6 (r:RelD):RelD:=if okR r then⟨r.n,za0 r.to r.n.toNat⟩ else zC
def zkh (r:RelD):Nat:=if okR r then(List.range r.n.toNat).foldl (fun s a=>if r.to a=0 then s else s|||2^a) 0 else 0
def zbG (r:RelD):Bool:=okR r&&decide (zkh r=0)
def comb (a b:RelD) (f:Nat->Nat):RelD×Int:=if a.n=b.n&&(okR a&&okR b) then(jT a.n.toNat f,0) else(zC,2)
def zav (a b:RelD):RelD×Int:=comb a b fun i=>a.to i|||b.to i
def zaZ (a b:RelD):RelD×Int:=comb a b fun i=>a.to i&&&b.to i
def jq (a b:RelD):RelD×Int:=comb a b fun i=>zea b.to (a.to i)
def zcH (before:Nat->Nat) (left:Nat):Option Nat:=(els left).find? fun a=>decide (before a&&&left=0)
def zkM (before:Nat->Nat):Nat->Nat->List Nat->Option (List Nat)
 | 0,left,l=>if left=0 then some l else none
 | n+1,left,l=>if left=0 then some l else match zcH before left with
  | none=>none
  | some a=>zkM before n (jU left (2^a)) (l++[a])
def zfs (r:RelD):Option (List Nat):=if okR r then zkM (z6 r).to 64 (zal r.n) [] else none
def zaU (r:RelD):Bool:=(zfs r).isSome
def zjb (n:Nat) (a b:Nat):RelD:=jT n fun x=>if a.testBit x then b&&&zal n else 0
def idR (n:Nat) (s:Nat):RelD:=jT n fun a=>s&&&2^a
end Go.Sei
namespace Go.Vc
open Go.RowKit
structure Step (n0:Nat) (Fp:Wd->Nat->Prop) (A B:Wd):Prop where
 os:B.os=A.os
 tape:B.tape=A.tape
 output:B.output=A.output
 size:A.heap.size<=B.heap.size
 same:∀k,k<A.heap.size->(k<n0\/Fp A k)->B.heap[k]?=A.heap[k]?
structure Keeps (Fp:Wd->Nat->Prop) (A B:Wd):Prop where
 os:B.os=A.os
 tape:B.tape=A.tape
 output:B.output=A.output
 size:A.heap.size<=B.heap.size
 same:∀k,k<A.heap.size->¬Fp A k->B.heap[k]?=A.heap[k]?
 fp:∀k,Fp B k->Fp A k\/A.heap.size<=k
structure IterJ {σ:Type} (n0:Nat) (Fp:Wd->Nat->Prop) (J:σ->Wd->Prop):Prop where
 step:∀s A B,J s A->Step n0 Fp A B->J s B/\∀k,Fp B k->Fp A k
 lt:∀s A k,J s A->Fp A k->k<A.heap.size
theorem Step.mono{n0 n1:Nat}{Fp:Wd->Nat->Prop}{A B:Wd}(h:Step n0 Fp A B)(hn:n1<=n0):Step n1 Fp A B :=
 ⟨h.os,h.tape,h.output,h.size,fun k a b=>h.same k a (b.imp (fun h=>nL h hn) id)⟩
theorem IterJ.mono{σ:Type}{n0 n1:Nat}{Fp:Wd->Nat->Prop}{J:σ->Wd->Prop}(h:IterJ n0 Fp J)(hn:n0<=n1):IterJ n1 Fp J :=
 ⟨fun s A B a b=>h.step s A B a (b.mono hn),h.lt⟩
theorem Step.of_below{n0:Nat}{Fp:Wd->Nat->Prop}{A B:Wd}(h:Bw A B):Step n0 Fp A B :=
 ⟨h.os,h.tape,h.output,h.size,fun k a _=>h.block k a⟩
theorem Step.alloc{n0:Nat}{Fp:Wd->Nat->Prop}(A:Wd)(o:Obj):Step n0 Fp A (A.alloc o) := .of_below ((Gb _ A).alloc (UW _) o)
theorem Step.drew{n0:Nat}{Fp:Wd->Nat->Prop}(A:Wd):Step n0 Fp A A.drew := .of_below (Gb _ A).drew
theorem Step.put{n0:Nat}{Fp:Wd->Nat->Prop}{A:Wd}{l:Nat}(h:n0<=l)(hf:¬Fp A l)(o:Obj):Step n0 Fp A (A.putObj l o) :=
 ⟨rfl,rfl,rfl,by simp[World.putObj],fun k _ a=>zj (fun e=>by subst e;rcases a with a | a;omega;exact hf a)⟩
theorem Step.row{n0:Nat}{Fp:Wd->Nat->Prop}{A:Wd}{l:Nat}(h:n0<=l)(hf:¬Fp A l)(cs:Array Value):Step n0 Fp A (A.setRow l cs) :=
 ⟨rfl,rfl,rfl,by simp,fun k _ a=>zr (fun e=>by subst e;rcases a with a | a;omega;exact hf a)⟩
theorem YieldR.mono{P:Program}{l:Nat}{args:Array Value}{w:Wd}{K K':Value->Wd->Prop}(h:YieldR P l args w K)(hk:∀v w,K v w->K' v w):YieldR P l args w K':=by
 obtain⟨i,c,a,b,f,g⟩:=h;exact⟨i,c,a,b,f,g.mono fun e j d=>by cases e <;> first | exact hk _ _ d | exact d⟩
def zh9:List Nat->List Value->VEnv->VEnv
 | p::ps,v::vs,E=>zh9 ps vs ((p,v)::E)
 | _,_,E=>E
theorem zcA{S:Sig}:∀(ps:List Nat) (vs:List Value) (a:Act) (E:Env),Agrees S a E->(∀p∈ps,p<S.n) ->
  Agrees S { a with tmps:=(ps.zip vs).foldl (fun t (p,v)=>t.setIfInBounds p v) a.tmps } ⟨zh9 ps vs E.vs,E.ds⟩
 | [],vs,a,E,h,_=>by simpa [zh9] using h
 | p::ps,[],a,E,h,_=>by simpa [zh9] using h
 | p::ps,v::vs,a,E,h,hp=>by
  have c:=h.put (dst:=some p) (by simpa [zpx] using hp p KA) v;have d:=zcA ps vs (a.put (some p) v) (zhm (some p) v E) c (fun q b=>hp q (JV _ b));simpa [zh9,zhm,Act.put] using d
def sr (S:Sig) (l:Nat):Sig:={ S with r:=some l }
theorem zjN{S:Sig}(h:SigOk S)(l:Nat):SigOk (sr S l):=⟨h.ty,h.call,h.mixed⟩
def zya {α:Type} (Fp:Wd->Nat->Prop) (J:List α->Wd->Prop) (Jx:Exit->List α->Wd->Prop) (xs:List α) (A:Wd):Exit->Env->Wd->Prop
 | .normal,_,B=>J xs B/\Keeps Fp A B
 | .ret,_,B=>Jx .ret xs B/\Keeps Fp A B
 | .exit id,_,B=>Jx (.exit id) xs B/\Keeps Fp A B
 | _,_,_=>False
theorem Keeps.trans{Fp:Wd->Nat->Prop}{A B C:Wd}(h:Keeps Fp A B)(k:Keeps Fp B C):Keeps Fp A C :=
 ⟨k.os.trans h.os,k.tape.trans h.tape,k.output.trans h.output,UL h.size k.size,fun i b c=>(k.same i (nL b h.size) (fun d=>by rcases h.fp i d with a | a;exact c a;omega)).trans (h.same i b c),fun i b=>Or.elim (k.fp i b) (fun a=>h.fp i a) fun a => .inr (UL h.size a)⟩
theorem Keeps.refl(Fp:Wd->Nat->Prop)(A:Wd):Keeps Fp A A:=⟨rfl,rfl,rfl,UW _,fun _ _ _=>rfl,fun _ h => .inl h⟩
theorem Keeps.of_below{Fp:Wd->Nat->Prop}{A B:Wd}(h:Bw A B)(hf:∀k,Fp B k->Fp A k\/A.heap.size<=k):Keeps Fp A B :=
 ⟨h.os,h.tape,h.output,h.size,fun k a _=>h.block k a,hf⟩
theorem zo{P:Program}{X:Wd}{T:TypeId}{iT:TI}(hT:TIok P T iT){cs:Array Value}{t:TypeId}{v:Value}(hv:v.cells.size=iT.size)(hc:cs.size=iT.size)
  (h0:v.cells.toList.all Value.oneCell'=true) {K:Wd->Prop}
  (k:∀Y,Bw X Y->Y.heap[X.heap.size]?=some (.cells v.cells t (0,0))->Y.heap.size=X.heap.size+1->K Y) :
  SatR ((storeVar T ⟨X.heap.size,0,none⟩ v).run P (X.alloc (.cells cs t))) fun _ w'=>K w' :=
 zp hT (zt X _) hv hc h0 (k _ (zk ((zba X _)) (UW _) _) (zn (zt X _)) (by simp))
structure StepO (n0:Nat) (Ow:Nat->Prop) (Fp:Wd->Nat->Prop) (A B:Wd):Prop where
 os:B.os=A.os
 tape:B.tape=A.tape
 output:B.output=A.output
 size:A.heap.size<=B.heap.size
 same:∀k,k<A.heap.size->((k<n0/\¬Ow k)\/Fp A k)->B.heap[k]?=A.heap[k]?
theorem Step.o{n0:Nat}{Ow:Nat->Prop}{Fp:Wd->Nat->Prop}{A B:Wd}(h:Step n0 Fp A B):StepO n0 Ow Fp A B :=
 ⟨h.os,h.tape,h.output,h.size,fun k a b=>h.same k a (b.imp (fun h=>h.1) id)⟩
theorem StepO.mono{n0 n1:Nat}{Ow:Nat->Prop}{Fp:Wd->Nat->Prop}{A B:Wd}(h:StepO n0 Ow Fp A B)(hn:n1<=n0):StepO n1 Ow Fp A B :=
 ⟨h.os,h.tape,h.output,h.size,fun k a b=>h.same k a (b.imp (fun h=>⟨nL h.1 hn,h.2⟩) id)⟩
structure IterJO {σ:Type} (n0:Nat) (Ow:Nat->Prop) (Fp:Wd->Nat->Prop) (J:σ->Wd->Prop):Prop where
 step:∀s A B,J s A->StepO n0 Ow Fp A B->J s B/\∀k,Fp B k->Fp A k
 lt:∀s A k,J s A->Fp A k->k<A.heap.size/\¬Ow k
theorem IterJO.mono{σ:Type}{n0 n1:Nat}{Ow:Nat->Prop}{Fp:Wd->Nat->Prop}{J:σ->Wd->Prop}(h:IterJO n0 Ow Fp J)(hn:n0<=n1):IterJO n1 Ow Fp J :=
 ⟨fun s A B a b=>h.step s A B a (b.mono hn),h.lt⟩
def zwx {α:Type} (P:Program) (g:Nat) (lb:List Value) (xs:List α) (W0:Wd) (Rd Ow:Nat->Prop) (St:List α->List Value->Wd->Prop):Prop :=
 ∀(l:Nat) (Fp:Wd->Nat->Prop) (J Jx:List α->Wd->Prop) (W:Wd),W0.heap.size<=W.heap.size->(∀k,Rd k\/Ow k->W.heap[k]?=W0.heap[k]?)->(∀k,Rd k->¬Fp W k) ->
  IterJO W.heap.size Ow Fp J->IterJO W.heap.size Ow Fp Jx ->
  (∀pre x vs W1,J pre W1->St (pre++[x]) vs W1->(pre++[x]) <+: xs->YieldR P l vs.toArray W1 fun v W2 =>
   (v = .bool true/\J (pre++[x]) W2/\Keeps Fp W1 W2)\/(v = .bool false/\Jx (pre++[x]) W2)) ->
  J [] W ->
  Calls P g (.func (.yield l) #[] #[]::lb).toArray W fun e W'=>(∃v,e = .returned v)/\(J xs W'\/∃pre,pre <+: xs/\Jx pre W')
theorem zwL{α:Type}{S:Sig}(hS:SigOk S)(hr:S.r=none){f:Operand}{ps:Array Tmp}{assign body:Code}{E:Env}{w:Wd}{Q:Exit->Env->Wd->Prop}
  {gf:Nat} {lb:Array Value} (hg:opd E f=some (.func (.func gf) #[] lb)) (hok:j6 S gf=true)
  {xs:List α} {W0:Wd} {Rd Ow:Nat->Prop} {St:List α->List Value->Wd->Prop} (hI:zwx S.P gf lb.toList xs W0 Rd Ow St) (hW0:W0.heap.size<=w.heap.size) (hRd:∀k,Rd k\/Ow k->k<W0.heap.size/\w.heap[k]?=W0.heap[k]?)
  (hps:∀pre vs W,St pre vs W->vs.length=ps.size) (hpn:∀p∈ps.toList,p<S.n)
  (Fp:Wd->Nat->Prop) (J:List α->Wd->Prop) (Jx:Exit->List α->Wd->Prop) (hRF:∀k,Rd k->¬Fp w k)
  (hJ:IterJO w.heap.size Ow Fp J) (hJx:∀ex,IterJO w.heap.size Ow Fp (Jx ex)) (h0:J [] w)
  (hround:∀(l:Nat) (pre:List α) (x:α) (vs:List Value) (W:Wd),w.heap.size<=l->(pre++[x]) <+: xs->J pre W->St (pre++[x]) vs W->¬Fp W l->l<W.heap.size ->
   wpE (sr S l) assign ⟨zh9 ps.toList vs E.vs,[]⟩ W fun ex E1 W1=>ex = .normal/\Keeps Fp W W1/\J pre W1 /\
    ∀o W2,W2=W1.putObj l o->J pre W2->(∀k,Fp W2 k->Fp W1 k)->wpE (sr S l) body E1 W2 (zya Fp J Jx (pre++[x]) W2))
  (hdone:∀D W,w.heap.size<=D->¬Fp W D->J xs W->W.heap[D]?=some (.deferred (some []))->Q .normal ⟨E.vs,{ target := .collected D,args := #[] }::E.ds⟩ W)
  (hstop:∀D ex pre W,w.heap.size<=D->¬Fp W D->pre <+: xs->Jx ex pre W->W.heap[D]?=some (.deferred (some []))->Q ex ⟨E.vs,{ target := .collected D,args := #[] }::E.ds⟩ W) :
  zlK S f ps assign body E w Q:=by
 intro a ha;have a2:∀args w,(callFunc gf args).run S.P w = .ok (.enter gf args) w:=by
  simp only[j6,bAT,Gc,Gd] at hok;exact fun args w=>hS.call gf hok.1.1 hok.1.2 hok.2 args w
 refine wpIn_rangeFunc ?_;intro fn bp;have bm:(FR S.r).round=none:=hr;rw[bm];obtain⟨b,i⟩:∃b:LoopState->Option Code->Loop,b=fun st pe=>{ state:=st,pending:=pe,fn,tmps:=a.tmps,params:=ps,assign,body,defers:=w.heap.size }:=⟨_,rfl⟩;obtain⟨W1,ag⟩:∃W1,(w.alloc (.deferred (some []))).alloc (.loop (b .ready none))=W1:=⟨_,rfl⟩;have bg:=zt w (.deferred (some []));have bf:W1.heap[w.heap.size]?=some (.deferred (some [])):=by rw[<- ag];exact qO _ bg
 have bj:W1.heap[w.heap.size+1]?=some (.loop (b .ready none)):=by
  rw[<- ag];have:=zt (w.alloc (.deferred (some []))) (.loop (b .ready none));rwa [wz] at this
 have bo:W1.heap.size=w.heap.size+2:=by rw[<- ag];simp
 have ar:Step w.heap.size Fp w W1:=by
  rw[<- ag];exact .of_below (((zba w _)).alloc (by simp) _)
 obtain⟨bi,ba⟩:=hJ.step _ _ _ h0 ar.o;have bb:∀k,w.heap.size<=k->¬Ow k:=fun k hk ho=>by have:=(hRd k (.inr ho)).1;omega
 have bc:∀k,Fp W1 k->k<w.heap.size:=fun k hk=>(hJ.lt _ _ k h0 (ba k hk)).1;refine⟨w.heap.size+1,[{ target := .collected w.heap.size,args := #[] }],W1,{ target := .fn (.func gf) lb,args := #[.func (.yield (w.heap.size+1)) #[] #[]] },W1,gf,
  #[.func (.yield (w.heap.size+1)) #[] #[]]++lb,W1,?_,?_,fun _ _=>trivial,?_,fun h=>by simp[FR] at h,?_⟩
 ·rw[<- ag,i];exact Kr _ _ _ _ _
 ·have bl:=ha.eval hg;simp only[resolve,bl];simp[go_sem]
 ·simp[invoke,go_sem,a2]
 ·have ax : #[Value.func (.yield (w.heap.size+1)) #[] #[]]++lb=(Value.func (.yield (w.heap.size+1)) #[] #[]::lb.toList).toArray:=by rw[<- Qc];simp
  rw[ax];have aq:∀{σ:Type} {K:σ->Wd->Prop} (lo:Loop),IterJO w.heap.size Ow Fp K->IterJO W1.heap.size Ow Fp (fun s W=>K s W/\W.heap[w.heap.size+1]?=some (.loop lo)/\W.heap[w.heap.size]?=some (.deferred (some []))/\¬Fp W (w.heap.size+1)/\¬Fp W w.heap.size):=by
   intro σ K lo hK;refine⟨fun s A B ⟨hk,hl,hd,aa,ac⟩ hs=>?_,fun s A k ⟨hk,_⟩ hf=>hK.lt s A k hk hf⟩;obtain⟨h1,h2⟩:=hK.step s A B hk (hs.mono (by omega));exact⟨⟨h1,(hs.same _ (hlt hl) (.inl ⟨by omega,bb _ (by omega)⟩)).trans hl,(hs.same _ (hlt hd) (.inl ⟨by omega,bb _ (by omega)⟩)).trans hd,fun h=>aa (h2 _ h),fun h=>ac (h2 _ h)⟩,h2⟩
  have am:=hI (w.heap.size+1) Fp (fun pre W=>J pre W/\W.heap[w.heap.size+1]?=some (.loop (b .ready none))/\W.heap[w.heap.size]?=some (.deferred (some []))/\¬Fp W (w.heap.size+1)/\¬Fp W w.heap.size)
   (fun pre W=>∃ex c,((ex = .ret/\c = .ret)\/∃id,ex = .exit id/\c = .exit id)/\Jx ex pre W/\W.heap[w.heap.size+1]?=some (.loop (b .done (some c)))/\W.heap[w.heap.size]?=some (.deferred (some []))/\¬Fp W (w.heap.size+1)/\¬Fp W w.heap.size)
   W1 (by omega) (fun k hk=>by
    obtain⟨h1,h2⟩:=hRd k hk;rw[<- h2];exact ar.same k (by omega) (.inl (by omega))) (fun k hk hf=>hRF k hk (ba k hf)) (aq _ hJ)
   ⟨fun s A B ⟨ex,c,hc,ad⟩ hs=>by
    have:=(aq (b .done (some c)) (hJx ex)).step s A B ad hs;exact⟨⟨ex,c,hc,this.1⟩,this.2⟩,fun s A k ⟨ex,c,hc,ad⟩ hf=>(hJx ex).lt s A k ad.1 hf⟩ ?_ ⟨bi,bj,bf,fun h=>by have:=bc _ h;omega,fun h=>by have:=bc _ h;omega⟩
  ·refine zdJ (am.mono ?_);rintro e W2 ⟨⟨v,rfl⟩,(⟨hj,hl,hk,aa,ac⟩ | ⟨pre,ah,ex,c,hc,hj,hl,hk,aa,ac⟩)⟩
   ·have ab:Step w.heap.size Fp W2 (W2.putObj (w.heap.size+1) (.loop (b .exhausted none))) := .put (by omega) aa _;obtain⟨ae,g⟩:=hJ.step _ _ _ hj ab.o;refine⟨none,_,by have:=Ga (P:=S.P) hl (by rw[i];simp);rw[i] at this;exact this,?_⟩;rw[i] at ae g;exact⟨⟨E.vs,{ target := .collected w.heap.size,args := #[] }::E.ds⟩,⟨ha.size,by simp[ha.defers],ha.val⟩,hdone w.heap.size _ (UW _) (fun h=>ac (g _ h)) ae ((zj (by omega)).trans hk)⟩
   ·have ab:Step w.heap.size Fp W2 (W2.putObj (w.heap.size+1) (.loop (b .exhausted (some c)))) := .put (by omega) aa _;obtain⟨ae,g⟩:=(hJx ex).step _ _ _ hj ab.o;refine⟨some c,_,by have:=Ga (P:=S.P) hl (by rw[i];simp);rw[i] at this;exact this,?_⟩;rw[i] at ae g;have hq:=hstop w.heap.size ex pre _ (UW _) (fun h=>ac (g _ h)) ah ae ((zj (by omega)).trans hk);rcases hc with⟨rfl,rfl⟩ | ⟨id,rfl,rfl⟩
    ·exact wpIn_ret ⟨⟨E.vs,{ target := .collected w.heap.size,args := #[] }::E.ds⟩,⟨ha.size,by simp[ha.defers],ha.val⟩,hq⟩
    ·exact wpIn_exit ⟨⟨E.vs,{ target := .collected w.heap.size,args := #[] }::E.ds⟩,⟨ha.size,by simp[ha.defers],ha.val⟩,hq⟩
  ·
   rintro pre x vs W ⟨hj,hl,hk,aa,ac⟩ ao ah;have hy:=run_yield (P:=S.P) (args:=vs.toArray) hl (by rw[i];simpa using hps _ _ _ ao);rw[i] at hy;refine⟨fn,_,assign,body,hy,zcB (r:=none) (n:=NN) (roundIn_of_wpIn (F:=FR none) trivial ?_)⟩;have be:Agrees (sr S (w.heap.size+1)) { tmps:=(ps.zip vs.toArray).foldl (fun t (p,v)=>t.setIfInBounds p v) a.tmps,defers:=[] } ⟨zh9 ps.toList vs E.vs,[]⟩:=by
    have h1:Agrees (sr S (w.heap.size+1)) { a with defers:=[] } ⟨E.vs,[]⟩:=⟨ha.size,rfl,ha.val⟩;have h2:=zcA ps.toList vs _ _ h1 hpn;have e:(ps.zip vs.toArray).foldl (fun t (p,v)=>t.setIfInBounds p v) a.tmps=(ps.toList.zip vs).foldl (fun t (p,v)=>t.setIfInBounds p v) a.tmps:=by
     rw[<- Ks];simp
    rw[e];exact h2
   have hw:=ji (zjN hS _) assign _ _ W _ be (hround (w.heap.size+1) pre x vs W (by omega) ah hj ao aa (hlt hl));refine Gg hw ?_;rintro ex a1 Wa ⟨E1,a9,rfl,q,bh,az⟩;have a5:=(q.same _ (hlt hl) aa).trans hl;have bd:=(q.same _ (hlt hk) ac).trans hk;have ap:¬Fp Wa (w.heap.size+1):=fun h=>by rcases q.fp _ h with h | h;exact aa h;have:=hlt hl;omega
   have a6:¬Fp Wa w.heap.size:=fun h=>by rcases q.fp _ h with h | h;exact ac h;have:=hlt hk;omega
   refine⟨_,run_beginRound a5 (by rw[i]),?_⟩;have ab:Step w.heap.size Fp Wa (Wa.putObj (w.heap.size+1) (.loop { b .ready none with state := .busy })) := .put (by omega) ap _;obtain⟨ae,g⟩:=hJ.step _ _ _ bh ab.o;have bk:=ji (zjN hS _) body _ _ _ _ a9 (az _ _ rfl ae g);refine Gg bk ?_;have aw:(Wa.putObj (w.heap.size+1) (.loop { b .ready none with state := .busy })).heap[w.heap.size+1]?=some (.loop { b .ready none with state := .busy }):=zaW a5;have av:(Wa.putObj (w.heap.size+1) (.loop { b .ready none with state := .busy })).heap[w.heap.size]?=some (.deferred (some [])):=(zj (by omega)).trans bd;have an:¬Fp (Wa.putObj (w.heap.size+1) (.loop { b .ready none with state := .busy })) (w.heap.size+1):=fun h=>ap (g _ h);have au:¬Fp (Wa.putObj (w.heap.size+1) (.loop { b .ready none with state := .busy })) w.heap.size:=fun h=>a6 (g _ h);have a4:∀(d:Option Code) (W3:Wd),Keeps Fp (Wa.putObj (w.heap.size+1) (.loop { b .ready none with state := .busy })) W3 ->
     (Instr.endRound (w.heap.size+1) d).run S.P W3 = .ok (.bool d.isNone) (W3.putObj (w.heap.size+1) (.loop (b (if d.isNone then .ready else .done) d))) /\
     (W3.putObj (w.heap.size+1) (.loop (b (if d.isNone then .ready else .done) d))).heap[w.heap.size+1]?=some (.loop (b (if d.isNone then .ready else .done) d)) /\
     (W3.putObj (w.heap.size+1) (.loop (b (if d.isNone then .ready else .done) d))).heap[w.heap.size]?=some (.deferred (some [])) /\
     Step w.heap.size Fp W3 (W3.putObj (w.heap.size+1) (.loop (b (if d.isNone then .ready else .done) d)))/\¬Fp W3 (w.heap.size+1)/\¬Fp W3 w.heap.size:=fun d W3 j=>by
    have a8:=(j.same _ (hlt aw) an).trans aw;have bn:=(j.same _ (hlt av) au).trans av;have u:¬Fp W3 (w.heap.size+1):=fun h=>by rcases j.fp _ h with h | h;exact an h;have:=hlt aw;omega
    have y:¬Fp W3 w.heap.size:=fun h=>by rcases j.fp _ h with h | h;exact au h;have:=hlt av;omega
    have:=run_endRound (P:=S.P) d a8;rw[i] at this ⊢;exact⟨this,zaW a8,(zj (by omega)).trans bn,.put (by omega) u _,u,y⟩
   rintro e a3 W3 ⟨E3,_,hq⟩
   cases e with
   | normal =>
    obtain⟨ak,j⟩:=hq;obtain⟨aj,af,al,z,u,y⟩:=a4 none W3 j;obtain⟨ai,m⟩:=hJ.step _ _ _ ak z.o;refine⟨_,_,aj,.inl ⟨rfl,⟨ai,af,al,fun h=>u (m _ h),fun h=>y (m _ h)⟩,z.os.trans (j.os.trans q.os),z.tape.trans (j.tape.trans q.tape),z.output.trans (j.output.trans q.output),?_,fun k ay a7=>?_,fun k ay=>?_⟩⟩
    ·have h1:=q.size;have h2:=ab.size;have h3:=j.size;have h4:=z.size;omega
    ·by_cases a0:k=w.heap.size+1
     ·subst a0;rw[af,hl];rfl
     ·have h1:¬Fp Wa k:=fun h=>by rcases q.fp _ h with h | h;exact a7 h;omega
      have h2:=q.size;have h3:=ab.size;rw[zj a0,j.same k (by omega) (fun h=>h1 (g _ h)),zj a0];exact q.same k ay a7
    ·have h1:=m _ ay;rcases j.fp _ h1 with h2 | h2
     ·exact q.fp _ (g _ h2)
     ·have h3:=q.size;have h4:=ab.size;exact .inr (by omega)
   | ret =>
    obtain⟨ak,j⟩:=hq;obtain⟨aj,af,al,z,u,y⟩:=a4 (some .ret) W3 j;obtain⟨ai,m⟩:=(hJx .ret).step _ _ _ ak z.o;exact⟨_,_,aj,.inr ⟨rfl,.ret,.ret,.inl ⟨rfl,rfl⟩,ai,af,al,fun h=>u (m _ h),fun h=>y (m _ h)⟩⟩
   | exit id =>
    obtain⟨ak,j⟩:=hq;obtain⟨aj,af,al,z,u,y⟩:=a4 (some (.exit id)) W3 j;obtain⟨ai,m⟩:=(hJx (.exit id)).step _ _ _ ak z.o;exact⟨_,_,aj,.inr ⟨rfl,.exit id,.exit id,.inr ⟨id,rfl,rfl⟩,ai,af,al,fun h=>u (m _ h),fun h=>y (m _ h)⟩⟩
   | goto t=>exact hq.elim
   | panic ch=>exact hq.elim
   | outgrown=>exact hq.elim
theorem zjT:∀(A B C:List Value),B.length=C.length->zin (A++B) A.length C=A++C
 | A,B,[],h=>by
  have:B=[]:=Jf h;subst this;rfl
 | A,[],c::C,h=>by simp at h
 | A,b::B,c::C,h=>by
  have e:(A++b::B).set A.length c=(A++[c])++B:=by
   rw[JN _ _ (UW _),UN];simp
  rw[zin,e];have:=zjT (A++[c]) B C (by simpa using h);rw[lap] at this;exact this.trans (by simp)
theorem zbs{n:Nat}{x:Operand}{z cs:List Value}(hc:cs.length=n)(hz:z.length=n):zeU (fun i=>some (i*n,n)) (zcO z 1) (zju [(0,x)] [.agg cs.toArray])=some cs:=by
 have a:zcO z 1=z:=by simp[zcO]
 have b:(Value.agg cs.toArray).cells.size=n:=by show cs.length=n;exact hc
 simp only[zju,zeU,a,b,UR,UQ,hz];simp only[Nat.beq_refl,Nat.ble_self_eq_true,Bool.and_self];have:(Value.agg cs.toArray).cells.toList=cs:=rfl;rw[this];have:=zjT [] z cs (by rw[hz,hc]);simp at this;rw[this]
theorem q9{α:Type}(E:Enc α)(a:α){w:Wd}{t:TypeId}:zI (w.alloc (.cells (E.enc a).toArray t)) ⟨w.heap.size,0,none⟩ ([a].flatMap E.enc):=by
 rw[List.flatMap_singleton];exact zkw
theorem zad{P:Program}{w:Wd}{g:Nat}{Te:TypeId}{iT:TI}(hT:TIok P Te iT){cs:Array Value}{t:TypeId}(hg:w.heap[g]?=some (.cells cs t (0,0))){o:Nat}{v:Value}(hv:v.cells.size=iT.size)(ho:o+v.cells.size<=cs.size)
  (h1:v.cells.toList.all Value.oneCell'=true) {K:Wd->Prop}
  (k:∀w',w'.heap[g]?=some (.cells (cs.toList.take o++v.cells.toList++cs.toList.drop (o+v.cells.size)).toArray t (0,0))->w.grownBy w' (some g)->w'.heap.size=w.heap.size->K w') :
  SatR ((storeVar Te ⟨g,o,none⟩ v).run P w) fun _ w'=>K w':=by
 obtain⟨⟨e,b,d,_,_⟩,_⟩:=hT;have c:=Qb P g o t v.cells.toList 0 cs w hg (by simpa using ho) (Qg.1 h1);have a:(sizeOf Te).run P w = .ok v.cells.size w:=by simp[sizeOf,typeInfo,b,d,hv]
 refine SatR.mk (v:=()) (w':=w.setRow g (cs.toList.take o++v.cells.toList++cs.toList.drop (o+v.cells.size)).toArray) ?_ (k _ (zn hg) (qW w g _) (by simp));simp only[storeVar,US,a,KZ];simpa using c
def zfR (ind:Nat->Nat->Bool) (ops:Array Oper) (k:Nat) (listed:Array Bool):Bool :=
 (List.range ops.size).all fun i=>Nat.beq i k||listed.getD i false||ind k i||zfr ops ops.size k i
def ztB (rec_:Array Bool->OT->Bool) (ind:Nat->Nat->Bool) (ops:Array Oper) (listed:Array Bool) (T:OT):Bool :=
 !(Region.ready .any ops listed).isEmpty&&(Region.ready .any ops listed).all fun i =>
   match OT.first ind i T with
   | some T'=>rec_ (listed.setIfInBounds i true) T'
   | none=>false
def zjc (ind:Nat->Nat->Bool) (ops:Array Oper):Nat->Array Bool->OT->Bool
 | 0,listed,T=>(Region.ready .any ops listed).isEmpty&&(match T with | .nil=>true | _=>false)
 | m+1,listed,.op k T'=>(match (Region.ready .any ops listed).contains k&&zfR ind ops k listed with
  | true=>zjc ind ops m (listed.setIfInBounds k true) T'
  | false=>ztB (zjc ind ops m) ind ops listed (.op k T'))
 | m+1,listed,.nil=>ztB (zjc ind ops m) ind ops listed .nil
 | m+1,listed,.alt x y=>ztB (zjc ind ops m) ind ops listed (.alt x y)
section
variable{ind:Nat->Nat->Bool}{ops:Array Oper}
def zfp (ops:Array Oper) (L:Array Bool):Prop:=∀j o,L.getD j false=true->ops[j]?=some o->∀e∈o.after,Region.binds .any e=true->L.getD e.on false=true
theorem ziY{L:Array Bool}{k j:Nat}{d:Bool}(h:j≠k):(L.setIfInBounds k true).getD j d=L.getD j d:=by
 have:¬k=j:=fun e=>h e.symm;simp[Ji,Jh,this]
theorem zeE{L:Array Bool}{k j:Nat}(h:L.getD j false=true):(L.setIfInBounds k true).getD j false=true:=by
 by_cases e:j=k
 ·subst e;have a:j<L.size:=by
   by_cases a:j<L.size
   ·exact a
   ·simp[a] at h
  simp[Ji,a]
 ·rw[ziY e];exact h
theorem zbD{L:Array Bool}{k i:Nat}(h:i∈Region.ready .any ops L)(hne:i≠k):i∈Region.ready .any ops (L.setIfInBounds k true):=by
 obtain⟨d,o,b,c⟩:=mem_ready.1 h;exact mem_ready.2 ⟨by rw[ziY hne];exact d,o,b,fun e a f=>zeE (c e a f)⟩
theorem zdV{L:Array Bool}{i:Nat}(h:i∈Region.ready .any ops L):L.getD i false=false/\i<L.size:=by
 obtain⟨a,_⟩:=mem_ready.1 h;by_cases b:i<L.size
 ·simp[Ji,b] at a ⊢;exact a
 ·simp[b] at a
theorem zdH{L:Array Bool}(hc:zfp ops L){k:Nat}(hk:k∈Region.ready .any ops L):zfp ops (L.setIfInBounds k true):=by
 obtain⟨l,o,g,h⟩:=mem_ready.1 hk;intro j i c a e b f;by_cases d:j=k
 ·subst d;rw[g] at a;cases a;exact zeE (h e b f)
 ·rw[ziY d] at c;exact zeE (hc j i c a e b f)
theorem zl1{L:Array Bool}{i k:Nat}:(L.setIfInBounds i true).setIfInBounds k true=(L.setIfInBounds k true).setIfInBounds i true:=by
 apply Array.ext_getElem?;intro j;simp only[Jh,Array.size_setIfInBounds]
 split <;> split <;> simp_all
theorem ziZ{k i:Nat}{L:Array Bool}(h:zfR ind ops k L=true):zfR ind ops k (L.setIfInBounds i true)=true:=by
 simp only[zfR,Qg,QD,Ul] at h ⊢;intro j a;rcases h j a with((h | h) | h) | h
 ·exact .inl (.inl (.inl h))
 ·exact .inl (.inl (.inr (zeE h)))
 ·exact .inl (.inr h)
 ·exact .inr h
theorem zmR{k i:Nat}{L:Array Bool}(hc:zfp ops L)(hf:zfR ind ops k L=true)(hk:k∈Region.ready .any ops L)(hi:i∈Region.ready .any ops L)(hne:i≠k):ind k i=true:=by
 obtain⟨c,o,a,b⟩:=mem_ready.1 hi;simp only[zfR,Qg,QD,Ul] at hf;rcases hf i (Jk.1 a).1 with((h | h) | h) | h
 ·exact Gp (JP h) hne
 ·rw[(zdV hi).1] at h;cases h
 ·exact h
 ·have:=zdu hc _ k i o a b h;rw[(zdV hk).1] at this;cases this
theorem zcc{rec_:Array Bool->OT->Bool}{L:Array Bool}{T:OT}(h:ztB rec_ ind ops L T=true):(Region.ready .any ops L).isEmpty=false/\∀i∈Region.ready .any ops L,∃T',OT.first ind i T=some T'/\rec_ (L.setIfInBounds i true) T'=true:=by
 simp only[ztB,bAT,KI,Qg] at h;refine⟨h.1,fun i a=>?_⟩;have:=h.2 i a
 split at this
 ·rename_i T' b;exact⟨T',b,this⟩
 ·cases this
theorem zrn:∀(m:Nat) (L:Array Bool) (T:OT),zfp ops L->zjc ind ops (m+1) L T=true ->
  (Region.ready .any ops L).isEmpty=false/\∀i∈Region.ready .any ops L,∃T',OT.first ind i T=some T'/\zjc ind ops m (L.setIfInBounds i true) T'=true:=by
 intro m
 induction m with
 | zero =>
  intro L T f h
  cases T with
  | nil=>exact zcc h
  | alt x y=>exact zcc h
  | op k T' =>
   simp only[zjc] at h
   split at h
   ·rename_i a;simp only[bAT,JS,dE] at a;refine⟨Js.2 (KC a.1),fun i b=>?_⟩;by_cases e:i=k
    ·subst e;exact⟨T',by simp[OT.first],h⟩
    ·have:=zbD b e;simp only[bAT,Qo] at h;rw[h.1] at this;cases this
   ·exact zcc h
 | succ m ih =>
  intro L T f h
  cases T with
  | nil=>exact zcc h
  | alt x y=>exact zcc h
  | op k T' =>
   unfold zjc at h
   split at h
   ·rename_i a;simp only[bAT,JS,dE] at a;refine⟨Js.2 (KC a.1),fun i b=>?_⟩;by_cases e:i=k
    ·subst e;exact⟨T',by simp[OT.first],h⟩
    ·obtain⟨T'',j,g⟩:=(ih _ T' (zdH f a.1) h).2 i (zbD b e);refine⟨.op k T'',?_,?_⟩
     ·have:¬k=i:=fun d=>e d.symm;rw[OT.first,Gm this,Gn (zmR f a.2 a.1 b e),j];rfl
     ·have c:k∈Region.ready .any ops (L.setIfInBounds i true):=zbD a.1 (fun d=>e d.symm);have l:((Region.ready .any ops (L.setIfInBounds i true)).contains k&&zfR ind ops k (L.setIfInBounds i true))=true:=by
       simp only[bAT,JS,dE];exact⟨c,ziZ a.2⟩
      unfold zjc;rw[l];rw[zl1];exact g
   ·exact zcc h
theorem zkp:∀(m:Nat) (L:Array Bool) (T:OT),zfp ops L->zjc ind ops m L T=true->zoz ind ops m L T=true
 | 0,L,T,_,h=>h
 | m+1,L,T,hc,h=>by
  obtain⟨e,c⟩:=zrn m L T hc h;simp only[zoz,bAT,KI,Qg];refine⟨e,fun i a=>?_⟩;obtain⟨T',d,b⟩:=c i a;rw[d];exact zkp m _ T' (zdH hc a) b
theorem DrawE.treeQ{S:Sig}{ops:Array Oper}{E:Env}{w:Wd}{K:Env->Wd->Prop}{QP:List PanicEntry->Wd->Prop}(X:List Nat)(T:OT)
  (h:(zjc (zdD S.τ X ops) ops ops.size (Array.replicate ops.size false) T&&ops.all (fun o=>j4 o.op))=true) (k:ziy S ops.toList X QP T E w.drew K):DrawE S ops E w K QP :=
 .inr (.inl ⟨X,T,by
  simp only[bAT] at h ⊢;refine⟨zkp _ _ _ (fun j o b=>?_) h.1,h.2⟩;by_cases a:j<ops.size <;> simp[a] at b,k⟩)
end
theorem zj7{z:Value}(h:0<z.cells.size)(n:Nat):(madeCells z.cells (n*z.cells.size)).toList=zcO z.cells.toList n:=by
 have:=zoV z.cells.toList (by simpa using h) n;unfold madeCells;simpa using Gi Array.toList this
theorem zj6{P:Program}{w:Wd}{t T:TypeId}{iT:TI}{z:List Value}{kl kc:IntKind}(hu:P.underlying t=some (.slice T))(hT:TIok P T iT)(hz:iT.zero=some z)(hzl:z.length=iT.size)(hp:0<iT.size)(n:Nat)(h1:iT.bytes*n<=281474976710656)(h63:n<=9223372036854775807){K:Value->Wd->Prop}
  (k:∀w',w'.heap[w.heap.size]?=some (.cells (zcO z n).toArray T (0,0))->Bw w w'->w'.heap.size=w.heap.size+1->K (.slice (some ⟨w.heap.size,0,none⟩) n n) w') :
  SatR ((Instr.makeSlice t (.int kl (n:Int)) (.int kc (n:Int))).run P w) K:=by
 obtain⟨⟨a,p,m,g,i⟩,_⟩:=hT;obtain⟨d,j,c⟩:=i z hz;have b:(n:Int)<=9223372036854775807:=by omega
 have l:(a.bytes:Int)*(n:Int)<=281474976710656:=by
  have h:((a.bytes*n:Nat):Int)<=281474976710656:=by rw[g];omega
  rwa [QE] at h
 have e:=run_make (P:=P) w t T a d hu p j kl kc n n (by omega) (Int.le_refl _) l b;simp only[KK] at e;have f:d.cells.size=a.size:=by rw[m,<- hzl,<- c];simp
 have o:madeCells d.cells (n*a.size)=(zcO z n).toArray:=by
  have:=zj7 (z:=d) (by omega) n;rw[c,f] at this;rw[<- this]
 rw[o] at e;exact SatR.mk e (k _ (zt w _) ((zba _ _)) (by simp))
theorem zm{P:Program}{w:Wd}{g:Nat}{Te:TypeId}{iT:TI}(hT:TIok P Te iT){cs:List Value}{t:TypeId}(hg:w.heap[g]?=some (.cells cs.toArray t (0,0))){o:Nat}{v:Value}(hv:v.cells = #[v])(hi:iT.size=1)(ho:o<cs.length)(h1:v.oneCell'=true){K:Wd->Prop}
  (k:∀w',w'.heap[g]?=some (.cells (cs.set o v).toArray t (0,0))->w.grownBy w' (some g)->w'.heap.size=w.heap.size->K w') :
  SatR ((storeVar Te ⟨g,o,none⟩ v).run P w) fun _ w'=>K w':=by
 refine zad hT hg (o:=o) (v:=v) (by rw[hv,hi];rfl) (by rw[hv];show o+1<=cs.length;omega) (by rw[hv];simpa using h1) fun w' f a b=>k w' ?_ a b;rw[f,hv];congr 2;show(cs.take o++[v]++cs.drop (o+1)).toArray=_;rw[Jb,Gn ho];simp
theorem zl{n:Nat}{A B:Wd}{g:Nat}(h:A.grownBy B (some g))(hn:n<=A.heap.size)(hg:n<=g):Below n A B :=
 ⟨h.os,h.tape,h.output,h.size,fun j a=>h.block j (nL a hn) (by simp;omega)⟩
theorem OwnS.lower{α:Type}{E:Enc α}{T B B' cap:Nat}{w:Wd}{p:OA}{l:List α}(h:OwnS E T B w p cap l)(hB:B'<=B):OwnS E T B' w p cap l:=by
 obtain⟨d,a⟩:=h;refine⟨d,?_⟩;rcases a with a | ⟨g,b,c,a,e,qM⟩
 ·exact .inl a
 ·exact .inr ⟨g,b,c,a,UL hB e,qM⟩
theorem zrr{P:Program}{w:Wd}{t T ty:TypeId}{iT:TI}{z:Value}(hu:P.underlying t=some (.slice T))(hT:TIok P T iT)(hz:iT.zero=some [z])(h1:z.oneCell'=true){b o n c:Nat}(hn:0<n){cs:Array Value}{u:TypeId}(hg:w.heap[b]?=some (.cells cs u (0,0)))(ho:o+n<=cs.size){K:Value->Wd->Prop}
  (k:∀w',w'.heap[b]?=some (.cells (cs.toList.take o++List.replicate n z++cs.toList.drop (o+n)).toArray u (0,0))->w.grownBy w' (some b)->w'.heap.size=w.heap.size->K (.tuple #[]) w') :
  SatR ((Builtin.clear_ #[t] ty #[.slice (some ⟨b,o,none⟩) n c]).run P w) K:=by
 obtain⟨⟨s,r,_,_,l⟩,_⟩:=hT;obtain⟨g,p,j⟩:=l _ hz;have q:∀w,(zeroValue T).run P w = .ok g w:=fun w=>by simp[zeroValue,typeInfo,r,p]
 have d:g.cells = #[z]:=by rw[<- j]
 have e:(Builtin.zeroCells g.cells n).toList=List.replicate n z:=by
  rw[d];simp[Builtin.zeroCells];apply List.ext_getElem
  ·simp
  ·intro i h1 x;simp[Nat.mod_one]
 have f:=Qb P b o u (List.replicate n z) 0 cs w hg (by simpa using ho) (fun v h=>by rw[Jt h];exact h1);refine SatR.mk (v := .tuple #[]) (w':=w.setRow b (cs.toList.take o++List.replicate n z++cs.toList.drop (o+n)).toArray) ?_ (k _ (zn hg) (qW w b _) (by simp));obtain⟨m,rfl⟩:∃m,n=m+1:=⟨n-1,by omega⟩;have a:Builtin.zeroCells g.cells (m+1)=(List.replicate (m+1) z).toArray:=by rw[<- e]
 simp only[UK,JL] at f;simp[Builtin.clear_,Uq hu,q,a,f]
theorem zd5{α:Type}{E:Enc α}{P:Program}{w:Wd}{t T:TypeId}{iT:TI}{z:List Value}{kl kc:IntKind}(hu:P.underlying t=some (.slice T))(hT:TIok P T iT)(hz:iT.zero=some z)(hzl:z.length=iT.size)(hs:iT.size=E.sz)(n:Nat)(h1:iT.bytes*n<=281474976710656)(h63:n<=maxLen){K:Value->Wd->Prop}
  (k:∀w',OwnS E T w.heap.size w' (some ⟨w.heap.size,0,none⟩) n []->Bw w w'->w'.heap.size=w.heap.size+1->K (.slice (some ⟨w.heap.size,0,none⟩) 0 n) w') :
  SatR ((Instr.makeSlice t (.int kl 0) (.int kc (n:Int))).run P w) K:=by
 obtain⟨⟨a,p,c,f,i⟩,_⟩:=hT;obtain⟨d,j,g⟩:=i z hz;have e:(n:Int)<=9223372036854775807:=by unfold maxLen at h63;omega
 have l:(a.bytes:Int)*(n:Int)<=281474976710656:=by
  have h:((a.bytes*n:Nat):Int)<=281474976710656:=by rw[f];omega
  rwa [QE] at h
 have m:=run_make (P:=P) w t T a d hu p j kl kc 0 n (by omega) (by omega) l e;simp only[KK,Int.toNat_zero] at m;have b:d.cells.size=a.size:=by rw[c,<- hzl,<- g];simp
 have q:0<d.cells.size:=by rw[b,c,hs];exact E.pos
 have o:(madeCells d.cells (n*a.size)).size=n*E.sz:=by
  have:=Gi List.length (zj7 (z:=d) q n);rw[zhT,b] at this;rw[<- hs,<- c];simpa [b] using this
 exact SatR.mk m (k _ (World.ownsRow_made w _ n (UW _) h63 o) ((zba _ _)) (by simp))
structure StepG (n0:Nat) (Ow F:Nat->Prop) (A B:Wd):Prop where
 os:B.os=A.os
 tape:B.tape=A.tape
 output:B.output=A.output
 size:A.heap.size<=B.heap.size
 same:∀k,k<A.heap.size->((k<n0/\¬Ow k)\/F k)->B.heap[k]?=A.heap[k]?
theorem StepG.mono{n0 n1:Nat}{Ow F:Nat->Prop}{A B:Wd}(h:StepG n0 Ow F A B)(hn:n1<=n0):StepG n1 Ow F A B :=
 ⟨h.os,h.tape,h.output,h.size,fun k a b=>h.same k a (b.imp (fun h=>⟨nL h.1 hn,h.2⟩) id)⟩
theorem StepG.below{n0:Nat}{Ow F:Nat->Prop}{A B:Wd}(h:Bw A B):StepG n0 Ow F A B :=
 ⟨h.os,h.tape,h.output,h.size,fun k a _=>h.block k a⟩
theorem StepG.trans{n0:Nat}{Ow F:Nat->Prop}{A B C:Wd}(h:StepG n0 Ow F A B)(k:StepG n0 Ow F B C):StepG n0 Ow F A C :=
 ⟨k.os.trans h.os,k.tape.trans h.tape,k.output.trans h.output,UL h.size k.size,fun i a b=>(k.same i (nL a h.size) b).trans (h.same i a b)⟩
theorem StepG.put{n0:Nat}{Ow F:Nat->Prop}{A:Wd}{l:Nat}(h:n0<=l)(hf:¬F l)(o:Obj):StepG n0 Ow F A (A.putObj l o) :=
 ⟨rfl,rfl,rfl,by simp[World.putObj],fun k _ a=>zj (fun e=>by subst e;rcases a with a | a;omega;exact hf a)⟩
theorem StepG.grown{n0:Nat}{Ow F:Nat->Prop}{A B:Wd}{l:Nat}(h:A.grownBy B (some l))(hl:n0<=l\/Ow l)(hf:¬F l):StepG n0 Ow F A B :=
 ⟨h.os,h.tape,h.output,h.size,fun k c a=>h.block k c (fun e=>by
  have e:k=l:=by simpa using e
  subst e;rcases a with b | b
  ·rcases hl with hl | hl
   ·omega
   ·exact b.2 hl
  ·exact hf b)⟩
structure JG {σ:Type} (n0:Nat) (Ow:Nat->Prop) (J:σ->(Nat->Prop)->Wd->Prop):Prop where
 step:∀s F A B,J s F A->StepG n0 Ow F A B->J s F B
 lt:∀s F A k,J s F A->F k->k<A.heap.size/\¬Ow k
theorem JG.mono{σ:Type}{n0 n1:Nat}{Ow:Nat->Prop}{J:σ->(Nat->Prop)->Wd->Prop}(h:JG n0 Ow J)(hn:n0<=n1):JG n1 Ow J :=
 ⟨fun s F A B a b=>h.step s F A B a (b.mono hn),h.lt⟩
structure KeepsG (F F':Nat->Prop) (A B:Wd):Prop where
 os:B.os=A.os
 tape:B.tape=A.tape
 output:B.output=A.output
 size:A.heap.size<=B.heap.size
 same:∀k,k<A.heap.size->¬F k->B.heap[k]?=A.heap[k]?
 fp:∀k,F' k->F k\/A.heap.size<=k
theorem KeepsG.refl(F:Nat->Prop)(A:Wd):KeepsG F F A A:=⟨rfl,rfl,rfl,UW _,fun _ _ _=>rfl,fun _ h => .inl h⟩
theorem KeepsG.trans{F F' F'':Nat->Prop}{A B C:Wd}(h:KeepsG F F' A B)(k:KeepsG F' F'' B C):KeepsG F F'' A C :=
 ⟨k.os.trans h.os,k.tape.trans h.tape,k.output.trans h.output,UL h.size k.size,fun i b c=>(k.same i (nL b h.size) (fun d=>by rcases h.fp i d with a | a;exact c a;omega)).trans (h.same i b c),fun i b=>Or.elim (k.fp i b) (fun a=>h.fp i a) fun a => .inr (UL h.size a)⟩
theorem KeepsG.weak{F F' G:Nat->Prop}{A B:Wd}(h:KeepsG F F' A B)(hF:∀k,F k->G k):KeepsG G F' A B :=
 ⟨h.os,h.tape,h.output,h.size,fun k a b=>h.same k a fun c=>b (hF k c),fun k a=>(h.fp k a).imp (hF k) id⟩
theorem KeepsG.below{F F':Nat->Prop}{A B:Wd}(h:Bw A B)(hf:∀k,F' k->F k\/A.heap.size<=k):KeepsG F F' A B :=
 ⟨h.os,h.tape,h.output,h.size,fun k a _=>h.block k a,hf⟩
theorem KeepsG.grown{F:Nat->Prop}{A B:Wd}{g:Nat}(h:A.grownBy B (some g))(hg:F g):KeepsG F F A B :=
 ⟨h.os,h.tape,h.output,h.size,fun k a b=>h.block k a (fun e=>b (by cases e;exact hg)),fun k h => .inl h⟩
def zkC {α:Type} (P:Program) (g:Nat) (lb:List Value) (xs:List α) (W0:Wd) (Rd Ow:Nat->Prop) (St:List α->List Value->Wd->Prop):Prop :=
 ∀(l:Nat) (F0:Nat->Prop) (J Jx:List α->(Nat->Prop)->Wd->Prop) (W:Wd),W0.heap.size<=W.heap.size->(∀k,Rd k\/Ow k->W.heap[k]?=W0.heap[k]?)->(∀k,Rd k->¬F0 k) ->
  JG W.heap.size Ow J->JG W.heap.size Ow Jx ->
  (∀pre x vs F W1,J pre F W1->St (pre++[x]) vs W1->(pre++[x]) <+: xs->YieldR P l vs.toArray W1 fun v W2 =>
   (v = .bool true/\∃F',J (pre++[x]) F' W2/\KeepsG F F' W1 W2)\/(v = .bool false/\∃F',Jx (pre++[x]) F' W2)) ->
  J [] F0 W ->
  Calls P g (.func (.yield l) #[] #[]::lb).toArray W fun e W'=>(∃v,e = .returned v)/\((∃F',J xs F' W')\/∃pre F',pre <+: xs/\Jx pre F' W')
def zwt {α:Type} (F:Nat->Prop) (J:List α->(Nat->Prop)->Wd->Prop) (Jx:Exit->List α->(Nat->Prop)->Wd->Prop) (xs:List α) (A:Wd):Exit->Env->Wd->Prop
 | .normal,_,B=>∃F',J xs F' B/\KeepsG F F' A B
 | .ret,_,B=>∃F',Jx .ret xs F' B/\KeepsG F F' A B
 | .exit id,_,B=>∃F',Jx (.exit id) xs F' B/\KeepsG F F' A B
 | _,_,_=>False
theorem zdW{α:Type}{S:Sig}(hS:SigOk S)(hr:S.r=none){f:Operand}{ps:Array Tmp}{assign body:Code}{E:Env}{w:Wd}{Q:Exit->Env->Wd->Prop}
  {gf:Nat} {lb:Array Value} (hg:opd E f=some (.func (.func gf) #[] lb)) (hok:j6 S gf=true)
  {xs:List α} {W0:Wd} {Rd Ow:Nat->Prop} {St:List α->List Value->Wd->Prop} (hI:zkC S.P gf lb.toList xs W0 Rd Ow St) (hW0:W0.heap.size<=w.heap.size) (hRd:∀k,Rd k\/Ow k->k<W0.heap.size/\w.heap[k]?=W0.heap[k]?)
  (hps:∀pre vs W,St pre vs W->vs.length=ps.size) (hpn:∀p∈ps.toList,p<S.n)
  (F0:Nat->Prop) (J:List α->(Nat->Prop)->Wd->Prop) (Jx:Exit->List α->(Nat->Prop)->Wd->Prop) (hRF:∀k,Rd k->¬F0 k)
  (hJ:JG w.heap.size Ow J) (hJx:∀ex,JG w.heap.size Ow (Jx ex)) (h0:J [] F0 w)
  (hround:∀(l:Nat) (pre:List α) (x:α) (vs:List Value) (F:Nat->Prop) (W:Wd),w.heap.size<=l->(pre++[x]) <+: xs->J pre F W->St (pre++[x]) vs W->¬F l->(∃lo,W.heap[l]?=some (.loop lo)) ->
   wpE (sr S l) assign ⟨zh9 ps.toList vs E.vs,[]⟩ W fun ex E1 W1=>ex = .normal/\∃F1,KeepsG F F1 W W1/\J pre F1 W1 /\
    ∀o W2,W2=W1.putObj l o->J pre F1 W2->wpE (sr S l) body E1 W2 (zwt F1 J Jx (pre++[x]) W2))
  (hdone:∀D F W,w.heap.size<=D->¬F D->J xs F W->W.heap[D]?=some (.deferred (some []))->Q .normal ⟨E.vs,{ target := .collected D,args := #[] }::E.ds⟩ W)
  (hstop:∀D ex pre F W,w.heap.size<=D->¬F D->pre <+: xs->Jx ex pre F W->W.heap[D]?=some (.deferred (some []))->Q ex ⟨E.vs,{ target := .collected D,args := #[] }::E.ds⟩ W) :
  zlK S f ps assign body E w Q:=by
 intro a ha;have ay:∀args w,(callFunc gf args).run S.P w = .ok (.enter gf args) w:=by
  simp only[j6,bAT,Gc,Gd] at hok;exact fun args w=>hS.call gf hok.1.1 hok.1.2 hok.2 args w
 refine wpIn_rangeFunc ?_;intro fn bj;have bg:(FR S.r).round=none:=hr;rw[bg];obtain⟨d,g⟩:∃d:LoopState->Option Code->Loop,d=fun st pe=>{ state:=st,pending:=pe,fn,tmps:=a.tmps,params:=ps,assign,body,defers:=w.heap.size }:=⟨_,rfl⟩;obtain⟨W1,ad⟩:∃W1,(w.alloc (.deferred (some []))).alloc (.loop (d .ready none))=W1:=⟨_,rfl⟩;have bd:=zt w (.deferred (some []));have a9:W1.heap[w.heap.size]?=some (.deferred (some [])):=by rw[<- ad];exact qO _ bd
 have bi:W1.heap[w.heap.size+1]?=some (.loop (d .ready none)):=by
  rw[<- ad];have:=zt (w.alloc (.deferred (some []))) (.loop (d .ready none));rwa [wz] at this
 have bk:W1.heap.size=w.heap.size+2:=by rw[<- ad];simp
 have am:Bw w W1:=by
  rw[<- ad];exact((zba w _)).alloc (by simp) _
 have ba:=hJ.step _ _ _ _ h0 (.below am);have a5:∀k,w.heap.size<=k->¬Ow k:=fun k hk ho=>by have:=(hRd k (.inr ho)).1;omega
 have a6:∀k,F0 k->k<w.heap.size:=fun k hk=>(hJ.lt _ _ _ k h0 hk).1;refine⟨w.heap.size+1,[{ target := .collected w.heap.size,args := #[] }],W1,{ target := .fn (.func gf) lb,args := #[.func (.yield (w.heap.size+1)) #[] #[]] },W1,gf,
  #[.func (.yield (w.heap.size+1)) #[] #[]]++lb,W1,?_,?_,fun _ _=>trivial,?_,fun h=>by simp[FR] at h,?_⟩
 ·rw[<- ad,g];exact Kr _ _ _ _ _
 ·have bf:=ha.eval hg;simp only[resolve,bf];simp[go_sem]
 ·simp[invoke,go_sem,ay]
 ·have ar : #[Value.func (.yield (w.heap.size+1)) #[] #[]]++lb=(Value.func (.yield (w.heap.size+1)) #[] #[]::lb.toList).toArray:=by rw[<- Qc];simp
  rw[ar];have ap:∀{σ:Type} {K:σ->(Nat->Prop)->Wd->Prop} (lo:Loop),JG w.heap.size Ow K->JG W1.heap.size Ow (fun s F W=>K s F W/\W.heap[w.heap.size+1]?=some (.loop lo)/\W.heap[w.heap.size]?=some (.deferred (some []))/\¬F (w.heap.size+1)/\¬F w.heap.size):=by
   intro σ K lo hK;exact⟨fun s F A B ⟨hk,hl,hd,u,z⟩ hs=>⟨hK.step s F A B hk (hs.mono (by omega)),(hs.same _ (hlt hl) (.inl ⟨by omega,a5 _ (by omega)⟩)).trans hl,(hs.same _ (hlt hd) (.inl ⟨by omega,a5 _ (by omega)⟩)).trans hd,u,z⟩,fun s F A k ⟨hk,_⟩ hf=>hK.lt s F A k hk hf⟩
  have ak:=hI (w.heap.size+1) F0 (fun pre F W=>J pre F W/\W.heap[w.heap.size+1]?=some (.loop (d .ready none))/\W.heap[w.heap.size]?=some (.deferred (some []))/\¬F (w.heap.size+1)/\¬F w.heap.size)
   (fun pre F W=>∃ex c,((ex = .ret/\c = .ret)\/∃id,ex = .exit id/\c = .exit id)/\Jx ex pre F W/\W.heap[w.heap.size+1]?=some (.loop (d .done (some c)))/\W.heap[w.heap.size]?=some (.deferred (some []))/\¬F (w.heap.size+1)/\¬F w.heap.size)
   W1 (by omega) (fun k hk=>by
    obtain⟨h1,h2⟩:=hRd k hk;rw[<- h2];exact am.block k (by omega)) hRF (ap _ hJ)
   ⟨fun s F A B ⟨ex,c,hc,aa⟩ hs=>⟨ex,c,hc,(ap (d .done (some c)) (hJx ex)).step s F A B aa hs⟩,fun s F A k ⟨ex,c,hc,aa⟩ hf=>(hJx ex).lt s F A k aa.1 hf⟩ ?_ ⟨ba,bi,a9,fun h=>by have:=a6 _ h;omega,fun h=>by have:=a6 _ h;omega⟩
  ·refine zdJ (ak.mono ?_);rintro e W2 ⟨⟨v,rfl⟩,(⟨F,hj,hl,hk,u,z⟩ | ⟨pre,F,ae,ex,c,hc,hj,hl,hk,u,z⟩)⟩
   ·have ab:=hJ.step _ _ _ _ hj (StepG.put (Ow:=Ow) (o := .loop (d .exhausted none)) (n0:=w.heap.size) (l:=w.heap.size+1) (by omega) u);refine⟨none,_,by have:=Ga (P:=S.P) hl (by rw[g];simp);rw[g] at this;exact this,?_⟩;rw[g] at ab;exact⟨⟨E.vs,{ target := .collected w.heap.size,args := #[] }::E.ds⟩,⟨ha.size,by simp[ha.defers],ha.val⟩,hdone w.heap.size F _ (UW _) z ab ((zj (by omega)).trans hk)⟩
   ·have ab:=(hJx ex).step _ _ _ _ hj (StepG.put (Ow:=Ow) (o := .loop (d .exhausted (some c))) (n0:=w.heap.size) (l:=w.heap.size+1) (by omega) u);refine⟨some c,_,by have:=Ga (P:=S.P) hl (by rw[g];simp);rw[g] at this;exact this,?_⟩;rw[g] at ab;have hq:=hstop w.heap.size ex pre F _ (UW _) z ae ab ((zj (by omega)).trans hk);rcases hc with⟨rfl,rfl⟩ | ⟨id,rfl,rfl⟩
    ·exact wpIn_ret ⟨⟨E.vs,{ target := .collected w.heap.size,args := #[] }::E.ds⟩,⟨ha.size,by simp[ha.defers],ha.val⟩,hq⟩
    ·exact wpIn_exit ⟨⟨E.vs,{ target := .collected w.heap.size,args := #[] }::E.ds⟩,⟨ha.size,by simp[ha.defers],ha.val⟩,hq⟩
  ·rintro pre x vs F W ⟨hj,hl,hk,u,z⟩ ao ae;have hy:=run_yield (P:=S.P) (args:=vs.toArray) hl (by rw[g];simpa using hps _ _ _ ao);rw[g] at hy;refine⟨fn,_,assign,body,hy,zcB (r:=none) (n:=NN) (roundIn_of_wpIn (F:=FR none) trivial ?_)⟩;have bc:Agrees (sr S (w.heap.size+1)) { tmps:=(ps.zip vs.toArray).foldl (fun t (p,v)=>t.setIfInBounds p v) a.tmps,defers:=[] } ⟨zh9 ps.toList vs E.vs,[]⟩:=by
    have h1:Agrees (sr S (w.heap.size+1)) { a with defers:=[] } ⟨E.vs,[]⟩:=⟨ha.size,rfl,ha.val⟩;have h2:=zcA ps.toList vs _ _ h1 hpn;have e:(ps.zip vs.toArray).foldl (fun t (p,v)=>t.setIfInBounds p v) a.tmps=(ps.toList.zip vs).foldl (fun t (p,v)=>t.setIfInBounds p v) a.tmps:=by
     rw[<- Ks];simp
    rw[e];exact h2
   have hw:=ji (zjN hS _) assign _ _ W _ bc (hround (w.heap.size+1) pre x vs F W (by omega) ae hj ao u ⟨_,hl⟩);refine Gg hw ?_;rintro ex a1 Wa ⟨E1,a2,rfl,F1,j,be,ax⟩;have a4:=(j.same _ (hlt hl) u).trans hl;have bb:=(j.same _ (hlt hk) z).trans hk;have ai:¬F1 (w.heap.size+1):=fun h=>by rcases j.fp _ h with h | h;exact u h;have:=hlt hl;omega
   have an:¬F1 w.heap.size:=fun h=>by rcases j.fp _ h with h | h;exact z h;have:=hlt hk;omega
   refine⟨_,run_beginRound a4 (by rw[g]),?_⟩;have al:StepG w.heap.size Ow F1 Wa (Wa.putObj (w.heap.size+1) (.loop { d .ready none with state := .busy })) := .put (by omega) ai _;have ab:=hJ.step _ _ _ _ be al;have a8:=ji (zjN hS _) body _ _ _ _ a2 (ax _ _ rfl ab);refine Gg a8 ?_;have aq:(Wa.putObj (w.heap.size+1) (.loop { d .ready none with state := .busy })).heap[w.heap.size+1]?=some (.loop { d .ready none with state := .busy }):=zaW a4;have au:(Wa.putObj (w.heap.size+1) (.loop { d .ready none with state := .busy })).heap[w.heap.size]?=some (.deferred (some [])):=(zj (by omega)).trans bb;have az:∀(b:Option Code) (F3:Nat->Prop) (W3:Wd),KeepsG F1 F3 (Wa.putObj (w.heap.size+1) (.loop { d .ready none with state := .busy })) W3 ->
     (Instr.endRound (w.heap.size+1) b).run S.P W3 = .ok (.bool b.isNone) (W3.putObj (w.heap.size+1) (.loop (d (if b.isNone then .ready else .done) b))) /\
     (W3.putObj (w.heap.size+1) (.loop (d (if b.isNone then .ready else .done) b))).heap[w.heap.size+1]?=some (.loop (d (if b.isNone then .ready else .done) b)) /\
     (W3.putObj (w.heap.size+1) (.loop (d (if b.isNone then .ready else .done) b))).heap[w.heap.size]?=some (.deferred (some [])) /\
     StepG w.heap.size Ow F3 W3 (W3.putObj (w.heap.size+1) (.loop (d (if b.isNone then .ready else .done) b)))/\¬F3 (w.heap.size+1)/\¬F3 w.heap.size:=fun b F3 W3 i=>by
    have a0:=(i.same _ (hlt aq) ai).trans aq;have bh:=(i.same _ (hlt au) an).trans au;have m:¬F3 (w.heap.size+1):=fun h=>by rcases i.fp _ h with h | h;exact ai h;have:=hlt aq;omega
    have q:¬F3 w.heap.size:=fun h=>by rcases i.fp _ h with h | h;exact an h;have:=hlt au;omega
    have:=run_endRound (P:=S.P) b a0;rw[g] at this ⊢;exact⟨this,zaW a0,(zj (by omega)).trans bh,.put (by omega) m _,m,q⟩
   rintro e a3 W3 ⟨E3,_,hq⟩
   cases e with
   | normal =>
    obtain⟨F3,af,i⟩:=hq;obtain⟨ah,ac,aj,y,m,q⟩:=az none F3 W3 i;have ag:=hJ.step _ _ _ _ af y;refine⟨_,_,ah,.inl ⟨rfl,F3,⟨ag,ac,aj,m,q⟩,y.os.trans (i.os.trans j.os),y.tape.trans (i.tape.trans j.tape),y.output.trans (i.output.trans j.output),?_,fun k aw a7=>?_,fun k aw=>?_⟩⟩
    ·have h1:=j.size;have h2:=al.size;have h3:=i.size;have h4:=y.size;omega
    ·by_cases av:k=w.heap.size+1
     ·subst av;rw[ac,hl];rfl
     ·have h1:¬F1 k:=fun h=>by rcases j.fp _ h with h | h;exact a7 h;omega
      have h2:=j.size;have h3:=al.size;rw[zj av,i.same k (by omega) h1,zj av];exact j.same k aw a7
    ·rcases i.fp _ aw with h2 | h2
     ·exact j.fp _ h2
     ·have h3:=j.size;have h4:=al.size;exact .inr (by omega)
   | ret =>
    obtain⟨F3,af,i⟩:=hq;obtain⟨ah,ac,aj,y,m,q⟩:=az (some .ret) F3 W3 i;have ag:=(hJx .ret).step _ _ _ _ af y;exact⟨_,_,ah,.inr ⟨rfl,F3,.ret,.ret,.inl ⟨rfl,rfl⟩,ag,ac,aj,m,q⟩⟩
   | exit id =>
    obtain⟨F3,af,i⟩:=hq;obtain⟨ah,ac,aj,y,m,q⟩:=az (some (.exit id)) F3 W3 i;have ag:=(hJx (.exit id)).step _ _ _ _ af y;exact⟨_,_,ah,.inr ⟨rfl,F3,.exit id,.exit id,.inr ⟨id,rfl,rfl⟩,ag,ac,aj,m,q⟩⟩
   | goto t=>exact hq.elim
   | panic ch=>exact hq.elim
   | outgrown=>exact hq.elim
end Go.Vc
namespace Go.Proofs.YtakcdebpklffiaaGreatDoor
open Go.Vc Go.RowKit Go.Sei
def s64 (n:Nat):Value := .int .u64 (n:Nat)
def s32 (n:Nat):Value := .int .u32 (n:Nat)
theorem bvN{a:Nat}(h:a<2^64):(BitVec.ofInt 64 (a:Int)).toNat=a:=by
 rw[Kt];have:((a:Int)%((2^64:Nat):Int))=(a:Int):=Int.emod_eq_of_lt (by omega) (by omega);rw[this];rfl
theorem w64{a:Int}(h:0<=a/\a<=18446744073709551615):IntKind.u64.wrap a=a:=zbl h
theorem zac{a b:Nat}(ha:a<2^64)(hb:b<2^64):IntKind.u64.wrap ((BitVec.ofInt IntKind.u64.bits (a:Int)&&&BitVec.ofInt IntKind.u64.bits (b:Int)).toNat:Int)=((a&&&b:Nat):Int):=by
 show IntKind.u64.wrap ((BitVec.ofInt 64 (a:Int)&&&BitVec.ofInt 64 (b:Int)).toNat:Int)=_;rw[Qe,bvN ha,bvN hb];have:a&&&b<=a:=QU;exact w64 (by omega)
theorem zau{a b:Nat}(ha:a<2^64)(hb:b<2^64):IntKind.u64.wrap ((BitVec.ofInt IntKind.u64.bits (a:Int)|||BitVec.ofInt IntKind.u64.bits (b:Int)).toNat:Int)=((a|||b:Nat):Int):=by
 show IntKind.u64.wrap ((BitVec.ofInt 64 (a:Int)|||BitVec.ofInt 64 (b:Int)).toNat:Int)=_;rw[BitVec.toNat_or,bvN ha,bvN hb];have:a|||b<2^64:=KX ha hb;exact w64 (by omega)
def je (a b:Nat):Nat:=a&&&(18446744073709551615-b)
theorem zc0{a b:Nat}(ha:a<2^64)(hb:b<2^64):IntKind.u64.wrap ((BitVec.ofInt IntKind.u64.bits (a:Int) &&& ~~~ BitVec.ofInt IntKind.u64.bits (b:Int)).toNat:Int)=((je a b:Nat):Int):=by
 show IntKind.u64.wrap ((BitVec.ofInt 64 (a:Int) &&& ~~~ BitVec.ofInt 64 (b:Int)).toNat:Int)=_;rw[Qe,BitVec.toNat_not,bvN ha,bvN hb];have e:2^64-1-b=18446744073709551615-b:=by omega
 rw[e];have:a&&&(18446744073709551615-b)<=a:=QU;unfold je;exact w64 (by omega)
theorem zay{a b:Nat}(ha:a<2^64):je a b<2^64:=by
 have:je a b<=a:=QU;omega
theorem zbi{a b i:Nat}(hb:b<2^64)(hi:i<64):(je a b).testBit i=(a.testBit i && !b.testBit i):=by
 unfold je;rw[QY,show 18446744073709551615-b=2^64-(b+1) by omega,Nat.testBit_two_pow_sub_succ hb];simp[hi]
theorem zab{e:Nat}(he:e<64):IntKind.u64.wrap ((1:Int)*2^(min (Int.toNat (e:Int)) IntKind.u64.bits))=((2^e:Nat):Int):=by
 have b:2^e<2^64:=Kf (by decide) he;have a:min (Int.toNat (e:Int)) IntKind.u64.bits=e:=by
  rw[KK];show min e 64=_;omega
 rw[a,Int.one_mul];have c:(2:Int)^e=((2^e:Nat):Int):=by simp
 rw[c];exact w64 ⟨Int.natCast_nonneg _,Int.ofNat_le.2 (show 2^e<=18446744073709551615 by omega)⟩
theorem zhw{a k:Nat}(hk:k<=64):((a:Nat):Int).fdiv (2^(min (Int.toNat (k:Int)) IntKind.u64.bits))=((a/2^k:Nat):Int):=by
 rw[KK,show min k IntKind.u64.bits=k from QW hk,Jl _ (Int.pow_nonneg (by decide)),Int.natCast_ediv,Int.natCast_pow];rfl
theorem zlE{a k:Nat}:(a/2^k)&&&1=if a.testBit k then 1 else 0:=by
 rw[KE,Nat.testBit_eq_decide_div_mod_eq];by_cases h:a/2^k%2=1
 ·rw[h];rfl
 ·rw[Gm (by simpa using h)];omega
theorem qc{k:Nat}(h:k<64):2^k<2^64:=Kf (by decide) h
theorem w32{a:Int}(h:0<=a/\a<=4294967295):IntKind.u32.wrap a=a:=by
 unfold IntKind.wrap;simp only[IntKind.bits,IntKind.signed,Ug,Ku,Gj];omega
theorem zqa{a:Nat}(h:a<2^32):(BitVec.ofInt 32 (a:Int)).toNat=a:=by
 rw[Kt];have:((a:Int)%((2^32:Nat):Int))=(a:Int):=Int.emod_eq_of_lt (by omega) (by omega);rw[this];rfl
theorem zoY{a b:Nat}(ha:a<2^32)(hb:b<2^32):IntKind.u32.wrap ((BitVec.ofInt IntKind.u32.bits (a:Int)&&&BitVec.ofInt IntKind.u32.bits (b:Int)).toNat:Int)=((a&&&b:Nat):Int):=by
 show IntKind.u32.wrap ((BitVec.ofInt 32 (a:Int)&&&BitVec.ofInt 32 (b:Int)).toNat:Int)=_;rw[Qe,zqa ha,zqa hb];have:a&&&b<=a:=QU;exact w32 (by omega)
theorem zgc{a b:Nat}(ha:a<2^32)(hb:b<2^32):IntKind.u32.wrap ((BitVec.ofInt IntKind.u32.bits (a:Int)|||BitVec.ofInt IntKind.u32.bits (b:Int)).toNat:Int)=((a|||b:Nat):Int):=by
 show IntKind.u32.wrap ((BitVec.ofInt 32 (a:Int)|||BitVec.ofInt 32 (b:Int)).toNat:Int)=_;rw[BitVec.toNat_or,zqa ha,zqa hb];have:a|||b<2^32:=KX ha hb;exact w32 (by omega)
theorem zhx{e:Nat}(he:e<32):IntKind.u32.wrap ((1:Int)*2^(min (Int.toNat (e:Int)) IntKind.u32.bits))=((2^e:Nat):Int):=by
 have b:2^e<2^32:=Kf (by decide) he;have a:min (Int.toNat (e:Int)) IntKind.u32.bits=e:=by
  rw[KK];show min e 32=_;omega
 rw[a,Int.one_mul];have c:(2:Int)^e=((2^e:Nat):Int):=by simp
 rw[c];exact w32 ⟨Int.natCast_nonneg _,Int.ofNat_le.2 (show 2^e<=4294967295 by omega)⟩
def zjH:List UInt8:=[0,1,56,2,57,49,28,3,61,58,42,50,38,29,17,4,62,47,59,36,45,43,51,22,53,39,33,30,24,18,12,5,63,55,48,27,60,41,37,16,46,35,44,21,52,32,23,11,54,26,40,15,34,20,31,10,25,14,19,9,13,8,7,6]
def zjI:List UInt8:=[0,1,28,2,29,14,24,3,30,22,20,15,25,17,4,8,31,27,13,23,21,19,16,7,26,12,18,6,11,5,10,9]
def Tz64M (X:Wd):Prop:=zI X ⟨7,0,none⟩ (zjH.map u8)
def Tz32M (X:Wd):Prop:=zI X ⟨8,0,none⟩ (zjI.map u8)
theorem Tz64M.below{w w2:Wd}(h:Tz64M w)(hb:Bw w w2):Tz64M w2:=zw hb h
theorem Tz32M.below{w w2:Wd}(h:Tz32M w)(hb:Bw w w2):Tz32M w2:=zw hb h
theorem zrY{k:Nat}(hk:k<64):2^k*285870213051353865%18446744073709551616/2^58<64/\zjH[2^k*285870213051353865%18446744073709551616/2^58]?=some (UInt8.ofNat k):=by
 have h:(List.range 64).all (fun k=>decide (2^k*285870213051353865%18446744073709551616/2^58<64)&&decide (zjH[2^k*285870213051353865%18446744073709551616/2^58]?=some (UInt8.ofNat k)))=true:=by kernel_rfl
 have a:=Qg.1 h k (Ul.2 hk);rw[bAT,dE,dE] at a;exact a
theorem zr0{k:Nat}(hk:k<32):2^k*125613361%4294967296/2^27<32/\zjI[2^k*125613361%4294967296/2^27]?=some (UInt8.ofNat k):=by
 have h:(List.range 32).all (fun k=>decide (2^k*125613361%4294967296/2^27<32)&&decide (zjI[2^k*125613361%4294967296/2^27]?=some (UInt8.ofNat k)))=true:=by kernel_rfl
 have a:=Qg.1 h k (Ul.2 hk);rw[bAT,dE,dE] at a;exact a
theorem zrZ{s:Nat}{w:Wd}(hT:Tz64M w)(h0:s≠0)(h:s<2^64):Calls PG 255 #[s64 s] w fun e w'=>e = .returned (i64 (ctz s:Nat))/\w=w':=by
 refine zD 14 [s64 s] Tryz.func255 ?_;obtain⟨_,_,g,c⟩:=j5 h0 h;have j:=qc c;obtain⟨f,i⟩:=zrY c;refine brN (Ue (fun e=>h0 (by omega))) ⟨((2^64-s:Nat):Int),by unfold IntKind.wrap;simp only[IntKind.bits,IntKind.signed,Ug,Ku,Gj];omega,?_⟩;refine⟨((2^ctz s:Nat):Int),(zac (a:=s) (b:=2^64-s) h (by omega)).trans (by rw[g]),?_⟩;refine⟨((2^ctz s*285870213051353865%18446744073709551616:Nat):Int),by
  have e:(((2^ctz s:Nat):Int)*285870213051353865)=((2^ctz s*285870213051353865:Nat):Int):=by rw[QE];rfl
  rw[e];generalize 2^ctz s*285870213051353865=n;unfold IntKind.wrap;simp only[IntKind.bits,IntKind.signed,Ug,Ku,Gj];omega,?_⟩
 refine⟨by decide,_,zhw (k:=58) (by decide),_,rfl,f,?_⟩;have d:(zjH.map u8)[2^ctz s*285870213051353865%18446744073709551616/2^58]?=some (u8 (UInt8.ofNat (ctz s))):=by rw[KT,i];rfl
 refine⟨u8 (UInt8.ofNat (ctz s)),by rw[UX];exact zc hT d,?_⟩;have e:(UInt8.ofNat (ctz s)).toNat=ctz s:=by rw[KH];omega
 exact⟨(ctz s:Int),by rw[e];exact ze (by omega),rfl,rfl⟩
theorem zja{s:Nat}{w:Wd}:Calls PG 187 #[s64 s] w fun e w'=>e = .returned (.func (.func 254) #[] #[.pointer (some ⟨w.heap.size,0,none⟩)])/\w'=w.alloc (.cells #[s64 s] 73):=by
 refine zD 4 [s64 s] Tryz.func187 ?_;exact⟨rfl,rfl⟩
def StN (pre:List Nat) (vs:List Value) (W:Wd):Prop:=∃c,pre.getLast?=some c/\vs=[i64 (c:Nat)]
theorem zaH{X Y:Wd}(h:Tz64M X)(hs:Y.heap[7]?=X.heap[7]?):Tz64M Y:=jp hs h
theorem zbn{X:Wd}(h:Tz64M X):7<X.heap.size:=Jy X _ (zbd h)
def RdE (bx:Nat) (k:Nat):Prop:=k=bx\/k=7
theorem zm1{bx s:Nat}{W0:Wd}(hbx:W0.heap[bx]?=some (.cells #[s64 s] 73 (0,0)))(hs:s<2^64)(hT:Tz64M W0) :
  zkC PG 254 [At0 bx] (els s) W0 (RdE bx) (fun _=>False) StN:=by
 intro yl F0 J Jx W ad u z hJ ac hy h0;have t:W.heap[bx]?=some (.cells #[s64 s] 73 (0,0)):=(u bx (.inl (.inl rfl))).trans hbx;have n:Tz64M W:=zaH hT (u _ (.inl (.inr rfl)));have m:¬F0 7:=z _ (.inr rfl);refine zD 16 [.func (.yield yl) #[] #[],At0 bx] Tryz.func254 ?_;refine⟨_,zc (za t) (i:=0) rfl,?_⟩;refine⟨List Nat×Nat,fun q=>⟨[(0,.func (.yield yl) #[] #[]),(3,s64 q.2)],[]⟩,
  fun q X=>∃F,J q.1 F X/\els s=q.1++els q.2/\q.2<2^64/\Tz64M X/\¬F 7,fun q=>q.2,([],s),
  (cvE rfl rfl),⟨F0,h0,rfl,hs,n,m⟩,?_⟩
 clear t n m h0;rintro⟨l,r⟩ X ⟨F,x,c,w,j,o⟩;dsimp only at x c w ⊢;refine biE (fun d=>?_) fun d=>?_
 ·have d:(!decide ((r:Int)=0))=true:=d;have d:¬(r:Int)=0:=by simpa using d
  have p:r≠0:=by omega
  obtain⟨e1,e2,_,_⟩:=j5 p w;refine cmo (zrZ j p w) ?_;rintro e _ ⟨rfl,rfl⟩;have f:(l++[ctz r]) <+: els s:=⟨els (qM r),by rw[c,e1];simp⟩;refine YieldR.mono (hy l (ctz r) [i64 (ctz r:Nat)] F X x ⟨ctz r,by simp,rfl⟩ f) ?_;rintro v V (⟨rfl,F',k,g⟩ | ⟨rfl,F',k⟩)
  ·refine brF ?_;have ae:=g.size;have y:=zbn j;have aa:Tz64M V:=zaH j (g.same _ y o);have ab:¬F' 7:=fun h=>by
    rcases g.fp _ h with h3 | h3
    ·exact o h3
    ·omega
   exact⟨((r-1:Nat):Int),(zbl (a:=(r:Int)-1) (by omega)).trans (by omega),((qM r:Nat):Int),zac (a:=r) (b:=r-1) w (by omega),(l++[ctz r],qM r),(cvE rfl rfl),⟨F',k,by rw[c,e1];simp,by show qM r<_;omega,aa,ab⟩,e2⟩
  ·exact brT ⟨⟨_,rfl⟩,.inr ⟨_,F',f,k⟩⟩
 ·have d:(!decide ((r:Int)=0))=false:=d;have d:(r:Int)=0:=by simpa using d
  obtain rfl:r=0:=by omega
  refine⟨⟨_,rfl⟩,.inl ?_⟩;rw[c,zaC,QG];exact⟨F,x⟩
theorem joG{σ:Type}{n0:Nat}{F:Nat->Prop}{J:σ->Wd->Prop}(hF:∀k,F k->k<n0)(hn:∀s A,J s A->n0<=A.heap.size)(hJ:∀s A B,J s A->Below n0 A B->J s B) :
  JG n0 (fun _=>False) (fun s F' W=>F'=F/\J s W):=by
 refine⟨fun s F' A B ⟨e,h⟩ a=>⟨e,hJ s A B h ⟨a.os,a.tape,a.output,a.size,fun k b=>a.same k (nL b (hn s A h)) (.inl ⟨b,fun h=>h⟩)⟩⟩,fun s F' A k ⟨e,h⟩ b=>?_⟩;subst e;exact⟨nL (hF k b) (hn s A h),fun h=>h⟩
theorem jA{n:Nat}{A B:Wd}(h:Below n A B){g:Nat}{o:Obj}(hg:g<n)(f:A.heap[g]?=some o):B.heap[g]?=some o:=(h.block g hg).trans f
theorem zbu{s:Nat}{w:Wd}(hs:s<2^64)(hT:Tz64M w):Calls PG 117 #[s64 s] w fun e w' =>
  e = .returned (.tuple #[i64 ((els s).headD 0:Nat),.bool (!(els s).isEmpty)])/\Bw w w':=by
 refine qA 9 [s64 s] (.c .p .p) Tryz.func117 ?_;obtain⟨L,hL⟩:=nm (w.heap.size);refine⟨Unit,fun _=>⟨[(0,s64 s),(2,At0 L),(3,At0 (L+1))],[]⟩,fun _ X=>X.heap[L]?=some (.cells #[i64 0] 3 (0,0))/\X.heap[L+1]?=some (.cells #[.bool false] 4 (0,0))/\X.heap.size=L+2/\Bw w X,?_,?_⟩
 ·have sz:=wz w (.cells #[i64 0] 3);refine⟨(),⟨.cons rfl (.cons (by rw[hL];rfl) (.cons (by rw[hL,<- sz];rfl) .nil)),rfl⟩,?_,?_,?_,?_⟩
  ·rw[hL];exact qO _ (zt w _)
  ·have:=zt (w.alloc (.cells #[i64 0] 3)) (.cells #[.bool false] 4);rw[sz,<- hL] at this;exact this
  ·have:=wz (w.alloc (.cells #[i64 0] 3)) (.cells #[.bool false] 4);rw[sz,<- hL] at this;exact this
  ·exact((zba w _)).alloc (by simp) _
 rintro _ X ⟨f1,f2,sX,ac⟩;refine cmo zja ?_;rintro e W ⟨rfl,hW⟩;have q:Bw X W:=by rw[hW];exact(zba _ _)
 have fb:W.heap[X.heap.size]?=some (.cells #[s64 s] 73 (0,0)):=by rw[hW];exact zt X _
 have sW:W.heap.size=L+3:=by rw[hW,wz,sX]
 have g1:=zb q f1;have g2:=zb q f2;have ab:Bw w W:=zst ac q;have aa:=hT.below ab;clear hW;refine zdW (zgn _) rfl (lb := #[.pointer (some ⟨X.heap.size,0,none⟩)]) rfl rfl (zm1 fb hs aa) (UW _) (fun k hk=>⟨by rcases hk with(rfl | rfl) | h;exact hlt fb;exact zbn aa;exact h.elim,rfl⟩) (fun a vs W ⟨c,_,h⟩=>by rw[h];rfl) (by decide)
  (fun k=>k=L\/k=L+1) (fun a F Y=>F=(fun k=>k=L\/k=L+1)/\a=[]/\W.heap.size<=Y.heap.size/\Y.heap[L]?=some (.cells #[i64 0] 3 (0,0))/\Y.heap[L+1]?=some (.cells #[.bool false] 4 (0,0))/\Bw w Y)
  (fun ex a F Y=>F=(fun k=>k=L\/k=L+1)/\ex = .ret/\W.heap.size<=Y.heap.size/\(∃c,a=[c]/\Y.heap[L]?=some (.cells #[i64 (c:Nat)] 3 (0,0)))/\Y.heap[L+1]?=some (.cells #[.bool true] 4 (0,0))/\Bw w Y)
  (fun k hk h=>by have:=zbn hT;rcases hk with rfl | rfl <;> omega)
  (joG (F:=fun k=>k=L\/k=L+1) (J:=fun(a:List Nat) Y=>a=[]/\W.heap.size<=Y.heap.size/\Y.heap[L]?=some (.cells #[i64 0] 3 (0,0))/\Y.heap[L+1]?=some (.cells #[.bool false] 4 (0,0))/\Bw w Y) (fun k h=>by omega) (fun s A h=>h.2.1) (fun a A B ⟨h0,z,j,d,f⟩ g=>⟨h0,UL z g.size,jA g (by omega) j,jA g (by omega) d,f.trans (g.mono (by omega))⟩))
  (fun ex=>joG (F:=fun k=>k=L\/k=L+1) (J:=fun(a:List Nat) Y=>ex = .ret/\W.heap.size<=Y.heap.size/\(∃c,a=[c]/\Y.heap[L]?=some (.cells #[i64 (c:Nat)] 3 (0,0)))/\Y.heap[L+1]?=some (.cells #[.bool true] 4 (0,0))/\Bw w Y) (fun k h=>by omega) (fun s A h=>h.2.1) (fun a A B ⟨h0,z,⟨c,hc,j⟩,d,f⟩ g=>⟨h0,UL z g.size,⟨c,hc,jA g (by omega) j⟩,jA g (by omega) d,f.trans (g.mono (by omega))⟩))
  ⟨rfl,rfl,UW _,g1,g2,ab⟩ ?_ ?_ ?_
 ·rintro yl a x vs F V ag ae hJ ⟨x',r,rfl⟩ af ⟨lo,ai⟩;have r:x=x':=by simpa using r
  subst r;refine⟨rfl,F,KeepsG.refl _ _,hJ,?_⟩;rintro o V2 ah ⟨rfl,rfl,z,j,d,f⟩;refine zm k3 j (o:=0) (v:=i64 (x:Nat)) rfl rfl (by show 0<1;decide) rfl fun Y fY m sY=>?_;have n:=(m.block (L+1) (hlt d) (by simp)).trans d;refine zm k4 n (o:=0) (v := .bool true) rfl rfl (by show 0<1;decide) rfl fun Z fZ u sZ=>?_;have y:=(u.block L (hlt fY) (by simp)).trans fY;refine⟨_,⟨rfl,rfl,by omega,⟨x,rfl,y⟩,fZ,(f.trans (zl m (by omega) (by omega))).trans (zl u (by omega) (by omega))⟩,(KeepsG.grown (F:=fun k=>k=L\/k=L+1) m (.inl rfl)).trans (KeepsG.grown u (.inr rfl))⟩
 ·rintro D F Y hD ad ⟨_,h0,z,j,d,f⟩ b;refine zm k3 j (o:=0) (v:=i64 0) rfl rfl (by show 0<1;decide) rfl fun Y1 fY m sY=>?_;have n:=(m.block (L+1) (hlt d) (by simp)).trans d;refine zm k4 n (o:=0) (v := .bool false) rfl rfl (by show 0<1;decide) rfl fun Z fZ u sZ=>?_;have y:=(u.block L (hlt fY) (by simp)).trans fY;have l:=(u.block D (by rw[sY];exact hlt b) (by simp;omega)).trans ((m.block D (hlt b) (by simp;omega)).trans b);refine⟨_,rfl,l,i64 0,?_,.bool false,?_,?_,?_⟩
  ·exact zc (za ((zj (by omega)).trans y)) (i:=0) rfl
  ·exact zc (za ((zj (by omega)).trans fZ)) (i:=0) rfl
  ·rw[h0];rfl
  ·exact qC ((f.trans (zl m (by omega) (by omega))).trans (zl u (by omega) (by omega))) (by omega) _
 ·rintro D ex a F Y hD ad ⟨t,ht⟩ ⟨_,rfl,z,⟨c,rfl,j⟩,d,f⟩ b;refine⟨_,rfl,b,i64 (c:Nat),?_,.bool true,?_,?_,?_⟩
  ·exact zc (za ((zj (by omega)).trans j)) (i:=0) rfl
  ·exact zc (za ((zj (by omega)).trans d)) (i:=0) rfl
  ·rw[<- ht];rfl
  ·exact qC f (by omega) _
def zaT (n:Int):Nat:=if n<1 then 0 else if 64<=n then 18446744073709551615 else 2^n.toNat-1
theorem za7(n:Int):zaT n<2^64:=by
 unfold zaT
 split
 ·decide
 split
 ·decide
 ·have:=qc (k:=n.toNat) (by omega);omega
theorem zkE{n:Int}{w:Wd}:Calls PG 115 #[i64 n] w fun e w'=>e = .returned (s64 (zaT n))/\w=w':=by
 refine zD 10 [i64 n] Tryz.func115 ?_;refine biE (fun h=>?_) fun h=>?_
 ·have h:n<1:=dT h;exact⟨by unfold zaT;rw[Gn h];rfl,rfl⟩
 ·have h:¬n<1:=dF h;refine biE (fun b=>?_) fun b=>?_
  ·have b:64<=n:=dT b;exact⟨by unfold zaT;rw[Gm h,Gn b];rfl,rfl⟩
  ·have b:¬64<=n:=dF b;obtain⟨k,rfl⟩:∃k:Nat,n=k:=⟨n.toNat,by omega⟩;have d:k<64:=by omega
   have f:=qc d;have c:=QZ k;refine⟨by omega,_,zab d,?_⟩;refine⟨((2^k-1:Nat):Int),?_,?_⟩
   ·generalize 2^k=m at f c ⊢;exact(w64 (a:=(m:Int)-1) (by omega)).trans (by omega)
   ·exact⟨by unfold zaT;rw[Gm h,Gm b];rfl,rfl⟩
def zF:Enc Nat:=⟨fun n=>[i64 (n:Nat)],1,fun _=>rfl,by decide,fun a u hu=>by
 simp only[UA,Qs,Gk] at hu;subst hu;rfl⟩
theorem zfV(s:Nat):(els s).length<=64:=by
 have:=JK (fun i=>s.testBit i) (List.range 64);rw[KU] at this;exact this
def zbo (to:Nat->Nat):List Value:=(List.range 48).map fun i=>s64 (to i)
def zf (r:RelD):List Value:=i64 r.n::zbo r.to
def zK (to:Nat->Nat):Prop:=∀i,i<48->to i<2^64
theorem zbQ(to:Nat->Nat):(zbo to).length=48:=by unfold zbo;rw[QJ,KU]
theorem zdy(to:Nat->Nat){i:Nat}(h:i<48):(zbo to)[i]?=some (s64 (to i)):=by
 unfold zbo;rw[KT,Ki h];rfl
theorem zg(r:RelD):(zf r).length=49:=by unfold zf;rw[Qp,zbQ]
theorem zfB(r:RelD){i:Nat}(h:i<48):(zf r)[1+i]?=some (s64 (r.to i)):=by
 unfold zf;rw[UJ,Ju,zdy _ h]
theorem zsm(to:Nat->Nat){i:Nat}(h:i<48)(v:Nat):(zbo to).set i (s64 v)=zbo (upd to i v):=by
 apply KO;intro j;by_cases a:j<48
 ·rw[zdy _ a];by_cases e:i=j
  ·subst e;rw[JC (by rw[zbQ];exact h),zN]
  ·rw[JT e,zdy _ a,qx _ _ (fun h=>e h.symm)]
 ·rw[JI (by rw[QL,zbQ];omega),JI (by rw[zbQ];omega)]
theorem zfA(r:RelD){i:Nat}(h:i<48)(v:Nat):(zf r).set (1+i) (s64 v)=zf ⟨r.n,upd r.to i v⟩:=by
 unfold zf;rw[UJ,KD,zsm _ h]
theorem zH(r:RelD):(zf r).all Value.oneCell'=true:=by
 unfold zf zbo;rw[Ux,List.all_map];rw[bAT,Qg];exact⟨rfl,fun x _=>rfl⟩
theorem zji{S:Sig}{g:Nat}{caps:Array Value}{vs:List Value}{w:Wd}{K:Value->Wd->Prop}{KP:List PanicEntry->Wd->Prop}{R:Ending->Wd->Prop}(hok:j6 S g=true)
  (h:Calls S.P g (vs++caps.toList).toArray w R) (k:∀e w',R e w'->∃v,e = .returned v/\K v w'):zp8 S (.func (.func g) #[] caps) vs w K KP:=by
 unfold zp8;dsimp only;rw[hok];exact CallR.mk h k
theorem za8(n:Int):zal n=zaT n:=rfl
theorem zbq(a b:Nat):jU a b=je a b:=rfl
section
variable{r:RelD}{w:Wd}
theorem j9(hr:zK r.to):CB 56 #[.agg (zf r).toArray] w (.bool (okR r)):=by
 refine zD 38 [.agg (zf r).toArray] Tryz.func56 ?_;have f0:=zt w (.cells (zf r).toArray 76);have hb:Bw w (w.alloc (.cells (zf r).toArray 76)):=zba w _;obtain⟨X,hX⟩:=nm (w.alloc (.cells (zf r).toArray 76));have hX':w.alloc (.cells (Value.agg (zf r).toArray).cells 76)=X:=hX.symm;rw[<- hX] at f0 hb;have hn:X.cell? ⟨w.heap.size,0+0,none⟩=some (i64 r.n):=zc (za f0) (i:=0) rfl;have out:∀b,okR r=b->(∀h:Ending.returned (.bool b)=Ending.returned (.bool (okR r)),True):=fun _ _ _=>trivial;refine⟨i64 r.n,by rw[hX'];exact hn,?_⟩;rw[hX'];refine biE (fun h=>?_) fun h=>?_
 ·have h:r.n<0:=dT h;refine brT ?_;exact⟨rb (by unfold okR;rw[Ue (by omega)];rfl),hb⟩
 have h:¬r.n<0:=dF h;refine⟨i64 r.n,hn,?_⟩;refine biE (fun h2=>?_) fun h2=>?_
 ·have h2:(48:Int)<r.n:=dT h2;exact⟨rb (by unfold okR;rw[Ue (show ¬r.n<=48 by omega),Ug,Uf]),hb⟩
 have h2:¬(48:Int)<r.n:=dF h2;have ok0:okR r=(List.range 48).all (zcj r):=by
  unfold okR;rw[Up (by omega),Up (by omega)];rfl
 rw[ok0];refine⟨i64 r.n,hn,?_⟩;refine cmo zkE ?_;rintro e _ ⟨rfl,rfl⟩;refine⟨zbo r.to,zbQ _,?_,hlt f0,?_⟩
 ·have:=zP (n:=1) (m:=48) (za f0);have e:((zf r).toArray.toList.drop 1).take 48=zbo r.to:=by
   show(zbo r.to).take 48=_;rw[JE (by rw[zbQ];exact UW _)]
  rw[e] at this;exact this
 refine⟨Nat,fun k=>⟨[(1,.pointer (some ⟨w.heap.size,0,none⟩)),(3,s64 (zaT r.n)),(18,.agg (zbo r.to).toArray),(19,i64 (k:Nat))],[]⟩,fun k Y=>X=Y/\k<=48/\∀i,i<k->zcj r i=true,fun k=>48-k,0,
  (cvE rfl rfl),⟨rfl,UZ _,fun i hi=>by omega⟩,?_⟩
 rintro k _ ⟨rfl,hk,hall⟩;refine biE (fun hc=>?_) fun hc=>?_
 ·have hc:(k:Int)<48:=dT hc;have hk':k<48:=by omega
  refine⟨k,rfl,hk',?_⟩;refine zax (by rw[UX];exact zdy _ hk') ?_;refine⟨_,zc0 (hr k hk') (za7 _),?_⟩;have no:zcj r k=false->(List.range 48).all (zcj r)=false:=fun h=>by
   rw[KL];exact⟨k,Ul.2 hk',by rw[h];exact Kv⟩
  refine biE (fun h3=>?_) fun h3=>?_
  ·have h3:(!decide (((je (r.to k) (zaT r.n):Nat):Int)=0))=true:=h3;have h3:¬jU (r.to k) (zal r.n)=0:=fun e=>by
    rw[zbq,za8] at e;rw[e] at h3;exact Gp h3 (by decide)
   refine brT ?_;exact⟨rb (no (by unfold zcj;rw[Ue h3];rfl)).symm,hb⟩
  have h3:(!decide (((je (r.to k) (zaT r.n):Nat):Int)=0))=false:=h3;have h3:jU (r.to k) (zal r.n)=0:=by
   have h4:decide (((je (r.to k) (zaT r.n):Nat):Int)=0)=true:=by simpa using h3
   exact Uw (dT h4)
  refine⟨i64 r.n,hn,?_⟩;have next:zcj r k=true->∀{K:Prop},(∀k',k'=k+1->(∀i,i<k'->zcj r i=true)->K)->K:=fun h K hK=>hK _ rfl fun i hi=>by
   by_cases e:i=k
   ·rw[e];exact h
   ·exact hall i (by omega)
  have fin:zcj r k=true->∃s':Nat,s'=k+1/\(X=X/\s'<=48/\∀i,i<s'->zcj r i=true):=fun h=>next h fun k' e h=>⟨k',e,rfl,by omega,h⟩
  refine biE (fun h4=>?_) fun h4=>?_
  ·have h4:r.n<=(k:Int):=dT h4;refine biE (fun h5=>?_) fun h5=>?_
   ·have h5:(!decide (((r.to k:Nat):Int)=0))=true:=h5;have h5:¬r.to k=0:=fun e=>by
     rw[e] at h5;exact Gp h5 (by decide)
    exact⟨rb (no (by unfold zcj;rw[Up h3,Ue (by omega),Ue h5];rfl)).symm,hb⟩
   ·have h5:(!decide (((r.to k:Nat):Int)=0))=false:=h5;have h5:r.to k=0:=by
     have h6:decide (((r.to k:Nat):Int)=0)=true:=(by simpa using h5);exact Uw (dT h6)
    obtain⟨s',e,hs⟩:=fin (by unfold zcj;rw[Up h3,Up h5];simp);refine nxI (by omega) ?_;exact⟨s',⟨.cons rfl (.cons rfl (.cons rfl (.cons (by rw[e];rfl) .nil))),rfl⟩,hs,by show 48-s'<48-k;omega⟩
  ·have h4:¬r.n<=(k:Int):=dF h4;refine brF ?_;obtain⟨s',e,hs⟩:=fin (by unfold zcj;rw[Up h3,Up (by omega)];rfl);refine nxI (by omega) ?_;exact⟨s',⟨.cons rfl (.cons rfl (.cons rfl (.cons (by rw[e];rfl) .nil))),rfl⟩,hs,by show 48-s'<48-k;omega⟩
 ·have hc:¬(k:Int)<48:=dF hc;obtain rfl:k=48:=by omega
  refine⟨rb ?_,hb⟩;symm;rw[Qg];exact fun i hi=>hall i (Ul.1 hi)
theorem zlC{n g:Nat}{caps:Array Value}{row:Nat->Nat}(hn:n<=48)(hok:j6 (sg 0) g=true)(jO:∀a X,a<n->Bw w X->Calls PG g (i64 (a:Nat)::caps.toList).toArray X fun e Y=>e = .returned (s64 (row a))/\Bw X Y) :
  CB 199 #[i64 n,.func (.func g) #[] caps] w (.agg (zf (jT n row)).toArray):=by
 refine qA 21 [i64 n,.func (.func g) #[] caps] (.s .p (.c .p .p)) Tryz.func199 ?_;obtain⟨L,q⟩:=nm (w.heap.size);refine⟨Unit,fun _=>⟨[(0,i64 n),(1,.func (.func g) #[] caps),(4,At0 L),(5,At0 (L+1))],[]⟩,fun _ X=>X.heap[L]?=some (.cells (zf zC).toArray 76 (0,0))/\X.heap[L+1]?=some (.cells (zf ⟨n,fun _=>0⟩).toArray 76 (0,0))/\X.heap.size=L+2/\Bw w X,?_,?_⟩
 ·have h1:=zt w (.cells (zf zC).toArray 76);have t:=wz w (.cells (zf zC).toArray 76);have x:=zt (w.alloc (.cells (zf zC).toArray 76)) (.cells (zf zC).toArray 76);have s2:=wz (w.alloc (.cells (zf zC).toArray 76)) (.cells (zf zC).toArray 76);have b2:Bw w ((w.alloc (.cells (zf zC).toArray 76)).alloc (.cells (zf zC).toArray 76)):=((zba w _)).alloc (by simp) _;refine⟨zf ⟨n,fun _=>0⟩,rfl,?_⟩;refine zp (v := .agg (zf ⟨n,fun _=>0⟩).toArray) k76 x rfl rfl (zH _) ?_;rw[t] at x s2;refine⟨(),⟨.cons rfl (.cons rfl (.cons (by rw[q];rfl) (.cons (by rw[q,<- t];rfl) .nil))),rfl⟩,?_,?_,?_,?_⟩
  ·rw[q];exact(zr (by rw[t];omega)).trans (qO _ h1)
  ·rw[q,t];exact zn x
  ·rw[q];simp
  ·exact zk b2 (by omega) _
 rintro _ X ⟨f,j,sX,b⟩;refine⟨Nat,fun k=>⟨[(1,.func (.func g) #[] caps),(4,At0 L),(5,At0 (L+1)),(9,i64 n),(10,i64 (k:Nat))],[]⟩,fun k Y=>k<=n/\Y.heap[L]?=some (.cells (zf zC).toArray 76 (0,0))/\Y.heap[L+1]?=some (.cells (zf (⟨n,fun i=>if i<k then row i else 0⟩)).toArray 76 (0,0))/\Bw w Y,fun k=>n-k,0,
  (cvE rfl rfl),⟨UZ _,f,j,b⟩,?_⟩
 clear f j sX b X;rintro k X ⟨hk,f,j,b⟩;refine biE (fun m=>?_) fun m=>?_
 ·have m:(k:Int)<(n:Int):=dT m;have l:k<n:=by omega
  refine zji (S:=sg 21) hok (jO k X l b) ?_;rintro e Y ⟨rfl,d⟩;refine⟨_,rfl,?_⟩;refine⟨k,rfl,by omega,?_⟩;have u:=zb d j;refine zm k73 u (o:=0+1+k*1) (v:=s64 (row k)) rfl rfl (by rw[zg];omega) rfl fun Z y z sZ=>?_;rw[UQ,UX,zfA _ (by omega)] at y;refine nxI (by omega) ?_;refine⟨k+1,(cvE rfl rfl),⟨l,(z.block L (hlt (zb d f)) (by simp)).trans (zb d f),?_,((zst b d)).trans (zl z ((zst b d)).size (by omega))⟩,zdc (by omega)⟩;have e:upd (fun i=>if i<k then row i else 0) k (row k)=fun i=>if i<k+1 then row i else 0:=by
   funext i;by_cases e:i=k
   ·subst e;rw[zN,Gn (by omega)]
   ·rw[qx _ _ e];by_cases h:i<k
    ·rw[Gn h,Gn (by omega)]
    ·rw[Gm h,Gm (by omega)]
  rw[<- e];exact y
 ·have m:¬(k:Int)<(n:Int):=dF m;obtain rfl:k=n:=by omega
  refine⟨zf (jT k row),zg _,za j,hlt j,?_⟩;refine zp (v := .agg (zf (jT k row)).toArray) k76 f rfl rfl (zH _) ?_;exact⟨zf (jT k row),zg _,za (zn f),rfl,zk b (by omega) _⟩
end
def evE:Enc Ev:=⟨fun e=>[i64 e.th,u8 e.k,u8 e.l,u8 e.v,u8 e.m,u8 e.i,u8 e.p],7,fun _=>rfl,by decide,fun a u hu=>by
 simp only[UA,Qs,Gk] at hu;rcases hu with rfl | rfl | rfl | rfl | rfl | rfl | rfl <;> rfl⟩
def seg (n:Nat) (f:Nat->Value):List Value:=(List.range n).map f
def zfi (f:Nat->Ev):List Value:=((List.range 24).map f).flatMap evE.enc
def jd (R:RunD):List Value:=i64 R.pc::(seg 8 (fun i=>u8 (R.regs i))++(seg 8 (fun i=>s32 (R.deps i))++([s32 R.ctl,i64 R.many]++(zfi R.ev ++
 (seg 24 (fun i=>s32 (R.data i))++(seg 24 (fun i=>s32 (R.ctrl i))++seg 24 (fun i=>s32 (R.att i))))))))
theorem zB(n:Nat)(f:Nat->Value):(seg n f).length=n:=by unfold seg;rw[QJ,KU]
theorem zcJ(f:Nat->Ev):(zfi f).length=168:=by
 unfold zfi;rw[zZ,QJ,KU];rfl
theorem zcR{n:Nat}(f:Nat->Value){i:Nat}(h:i<n):(seg n f)[i]?=some (f i):=by
 unfold seg;rw[KT,Ki h];rfl
theorem zhA{n:Nat}(f g:Nat->Value){i:Nat}(h:i<n)(hg:g i=g i)(hs:∀j,j≠i->g j=f j):(seg n f).set i (g i)=seg n g:=by
 apply KO;intro j;by_cases a:j<n
 ·rw[zcR g a];by_cases e:i=j
  ·subst e;rw[JC (by rw[zB];exact h)]
  ·rw[JT e,zcR f a,hs j (fun h=>e h.symm)]
 ·rw[JI (by rw[QL,zB];omega),JI (by rw[zB];omega)]
theorem jw{A B:List Value}{n i:Nat}(h:A.length=n):(A++B)[n+i]?=B[i]?:=by
 rw[Jm (by omega),h,Jw]
theorem zhL{B:List Value}{n i:Nat}{f:Nat->Value}(h:i<n):(seg n f++B)[i]?=some (f i):=by
 rw[Jq (by rw[zB];exact h),zcR f h]
theorem qT{A B:List Value}{n i:Nat}(h:A.length=n){v:Value}:(A++B).set (n+i) v=A++B.set i v:=by
 rw[JN _ _ (by omega),h,Jw]
theorem zft{B:List Value}{n i:Nat}{f:Nat->Value}(g:Nat->Value)(h:i<n)(hs:∀j,j≠i->g j=f j):(seg n f++B).set i (g i)=seg n g++B:=by
 rw[List.set_append_left _ _ (by rw[zB];exact h),zhA f g h rfl hs]
theorem jM(R:RunD):(jd R).length=259:=by
 unfold jd;simp only[Qp,lap,zB,zcJ,QK]
section
variable(R:RunD)
theorem zuA{i:Nat}(h:i<8):(jd R)[1+i]?=some (u8 (R.regs i)):=by
 unfold jd;rw[UJ,Ju,zhL h]
theorem zuB{i:Nat}(h:i<8):(jd R)[9+i]?=some (s32 (R.deps i)):=by
 unfold jd;rw[show 9+i=(8+i)+1 by omega,Ju,jw (zB _ _),zhL h]
theorem zie:∃A,A.length=16/\jd R=i64 R.pc::(A++([s32 R.ctl,i64 R.many]++(zfi R.ev++(seg 24 (fun i=>s32 (R.data i))++(seg 24 (fun i=>s32 (R.ctrl i))++seg 24 (fun i=>s32 (R.att i))))))) :=
 ⟨seg 8 (fun i=>u8 (R.regs i))++seg 8 (fun i=>s32 (R.deps i)),by rw[lap,zB,zB],by unfold jd;rw[KN]⟩
theorem zo9:(jd R)[17]?=some (s32 R.ctl):=by
 obtain⟨A,a,e⟩:=zie R;rw[e];exact(jw (i:=0) a).trans rfl
theorem zci:(jd R)[18]?=some (i64 R.many):=by
 obtain⟨A,a,e⟩:=zie R;rw[e];exact(jw (i:=1) a).trans rfl
theorem zl7{i:Nat}(h:i<24):(jd R)[187+i]?=some (s32 (R.data i)):=by
 obtain⟨A,a,e⟩:=zie R;rw[e,show 187+i=(16+(2+(168+i)))+1 by omega,Ju,jw a,jw (A:=[s32 R.ctl,i64 R.many]) (n:=2) rfl,jw (zcJ _),zhL h]
theorem zl8{i:Nat}(h:i<24):(jd R)[211+i]?=some (s32 (R.ctrl i)):=by
 obtain⟨A,a,e⟩:=zie R;rw[e,show 211+i=(16+(2+(168+(24+i))))+1 by omega,Ju,jw a,jw (A:=[s32 R.ctl,i64 R.many]) (n:=2) rfl,jw (zcJ _),jw (zB _ _),zhL h]
theorem zkV{i:Nat}(h:i<24):(jd R)[235+i]?=some (s32 (R.att i)):=by
 obtain⟨A,a,e⟩:=zie R;rw[e,show 235+i=(16+(2+(168+(24+(24+i)))))+1 by omega,Ju,jw a,jw (A:=[s32 R.ctl,i64 R.many]) (n:=2) rfl,jw (zcJ _),jw (zB _ _),jw (zB _ _),zcR _ h]
theorem zif(n:Nat):(jd R).set 0 (i64 n)=jd { R with pc:=n }:=rfl
theorem zl3{i:Nat}(h:i<8)(v:UInt8):(jd R).set (1+i) (u8 v)=jd { R with regs:=upd R.regs i v }:=by
 unfold jd;rw[UJ,KD];have:=zft (B:=seg 8 (fun i=>s32 (R.deps i))++([s32 R.ctl,i64 R.many]++(zfi R.ev++(seg 24 (fun i=>s32 (R.data i))++(seg 24 (fun i=>s32 (R.ctrl i))++seg 24 (fun i=>s32 (R.att i))))))) (f:=fun i=>u8 (R.regs i)) (fun j=>u8 (upd R.regs i v j)) h (fun j a=>by rw[qx _ _ a]);rw[zN] at this;rw[this]
theorem zl4{i:Nat}(h:i<8)(v:Nat):(jd R).set (9+i) (s32 v)=jd { R with deps:=upd R.deps i v }:=by
 unfold jd;rw[show 9+i=(8+i)+1 by omega,KD,qT (zB _ _)];have:=zft (B:=[s32 R.ctl,i64 R.many]++(zfi R.ev++(seg 24 (fun i=>s32 (R.data i))++(seg 24 (fun i=>s32 (R.ctrl i))++seg 24 (fun i=>s32 (R.att i)))))) (f:=fun i=>s32 (R.deps i)) (fun j=>s32 (upd R.deps i v j)) h (fun j a=>by rw[qx _ _ a]);rw[zN] at this;rw[this]
theorem zl5(v:Nat):(jd R).set 17 (s32 v)=jd { R with ctl:=v }:=by
 unfold jd;show i64 R.pc::(seg 8 (fun i=>u8 (R.regs i))++_).set (8+(8+0)) (s32 v)=_;rw[qT (zB _ _),qT (zB _ _)];rfl
theorem zkU(v:Nat):(jd R).set 18 (i64 v)=jd { R with many:=v }:=by
 unfold jd;show i64 R.pc::(seg 8 (fun i=>u8 (R.regs i))++_).set (8+(8+1)) (i64 v)=_;rw[qT (zB _ _),qT (zB _ _)];rfl
theorem zfu{i:Nat}(h:i<24)(v:Nat):(jd R).set (187+i) (s32 v)=jd { R with data:=upd R.data i v }:=by
 unfold jd;rw[show 187+i=(8+(8+(2+(168+i))))+1 by omega,KD,qT (zB _ _),qT (zB _ _),qT (A:=[s32 R.ctl,i64 R.many]) (n:=2) rfl,qT (zcJ _)];have:=zft (B:=seg 24 (fun i=>s32 (R.ctrl i))++seg 24 (fun i=>s32 (R.att i))) (f:=fun i=>s32 (R.data i)) (fun j=>s32 (upd R.data i v j)) h (fun j a=>by rw[qx _ _ a]);rw[zN] at this;rw[this]
theorem zfv{i:Nat}(h:i<24)(v:Nat):(jd R).set (211+i) (s32 v)=jd { R with ctrl:=upd R.ctrl i v }:=by
 unfold jd;rw[show 211+i=(8+(8+(2+(168+(24+i)))))+1 by omega,KD,qT (zB _ _),qT (zB _ _),qT (A:=[s32 R.ctl,i64 R.many]) (n:=2) rfl,qT (zcJ _),qT (zB _ _)];have:=zft (B:=seg 24 (fun i=>s32 (R.att i))) (f:=fun i=>s32 (R.ctrl i)) (fun j=>s32 (upd R.ctrl i v j)) h (fun j a=>by rw[qx _ _ a]);rw[zN] at this;rw[this]
theorem zl6{i:Nat}(h:i<24)(v:Nat):(jd R).set (235+i) (s32 v)=jd { R with att:=upd R.att i v }:=by
 unfold jd;rw[show 235+i=(8+(8+(2+(168+(24+(24+i))))))+1 by omega,KD,qT (zB _ _),qT (zB _ _),qT (A:=[s32 R.ctl,i64 R.many]) (n:=2) rfl,qT (zcJ _),qT (zB _ _),qT (zB _ _)];have:=zhA (fun i=>s32 (R.att i)) (fun j=>s32 (upd R.att i v j)) h rfl (fun j a=>by rw[qx _ _ a]);rw[zN] at this;rw[this]
theorem zuZ{α:Type}(f:Nat->α){n i:Nat}(h:i<n)(v:α):((List.range n).map f).set i v=(List.range n).map (upd f i v):=by
 apply KO;intro j;by_cases a:j<n
 ·rw[KT,Ki a];by_cases e:i=j
  ·subst e;rw[JC (by simpa using h)];show _=some (upd f i v i);rw[zN]
  ·rw[JT e,KT,Ki a];show some (f j)=some (upd f i v j);rw[qx _ _ (fun h=>e h.symm)]
 ·rw[JI (by simp;omega),JI (by simp;omega)]
theorem znS{i:Nat}(h:i<24)(v:Ev):(jd R).take (19+i*7)++evE.enc v++(jd R).drop (19+i*7+7)=jd { R with ev:=upd R.ev i v }:=by
 obtain⟨A,b,e⟩:∃A:List Value,A.length=19/\∀ev,jd { R with ev:=ev }=A++(zfi ev++(seg 24 (fun i=>s32 (R.data i))++(seg 24 (fun i=>s32 (R.ctrl i))++seg 24 (fun i=>s32 (R.att i))))) :=
  ⟨i64 R.pc::(seg 8 (fun i=>u8 (R.regs i))++(seg 8 (fun i=>s32 (R.deps i))++[s32 R.ctl,i64 R.many])),by
   simp only[Qp,lap,zB,QK],fun ev=>by
   unfold jd;simp only[Qi,KN,QQ]⟩
 have a:jd R=_:=e R.ev;rw[a,e,<- b,List.take_length_add_append,UB,Jj];have:=zmT (E:=evE) ((List.range 24).map R.ev) (i:=i) (by simpa using h) v (seg 24 (fun i=>s32 (R.data i))++(seg 24 (fun i=>s32 (R.ctrl i))++seg 24 (fun i=>s32 (R.att i))));rw[zuZ _ h] at this;unfold zfi;rw[KN,KN,<- this,KN];rfl
end
theorem zto(f:Nat->Ev){i:Nat}(h:i<24):((zfi f).drop (i*7)).take 7=evE.enc (f i):=by
 unfold zfi;have:=zec (E:=evE) ((List.range 24).map f) i (by simpa using h);rw[Qn,Kz] at this;exact this
theorem zo8{R:RunD}{w:Wd}{b:Nat}{t:TypeId}(f:w.heap[b]?=some (.cells (jd R).toArray t (0,0))):zI w ⟨b,19,none⟩ (zfi R.ev):=by
 have h:=za f;unfold jd at h;have a:=zP (n:=19) (m:=168) h;have e:((i64 R.pc::(seg 8 (fun i=>u8 (R.regs i))++(seg 8 (fun i=>s32 (R.deps i))++([s32 R.ctl,i64 R.many]++(zfi R.ev++(seg 24 (fun i=>s32 (R.data i))++(seg 24 (fun i=>s32 (R.ctrl i))++seg 24 (fun i=>s32 (R.att i))))))))).drop 19).take 168=zfi R.ev:=by
  show((seg 8 (fun i=>u8 (R.regs i))++_).drop (8+(8+2))).take 168=_;have d:∀{A B:List Value} {n i:Nat},A.length=n->(A++B).drop (n+i)=B.drop i:=fun{A B n i} h=>by rw[<- h,Jj]
  rw[d (zB _ _),d (zB _ _)];show(zfi R.ev++_).take 168=_;rw[QT (zcJ _)]
 rw[<- e];exact a
theorem w8N(u:Nat):IntKind.u8.wrap (u:Int)=((UInt8.ofNat u).toNat:Int):=by
 rw[KH];unfold IntKind.wrap;simp only[IntKind.bits,IntKind.signed,Ug,Ku,Gj];omega
abbrev jJ (X:Wd) (b:Nat) (R:RunD):Prop:=X.heap[b]?=some (.cells (jd R).toArray 209 (0,0))
abbrev AtR (b:Nat):Value:=At0 b
section
variable{R:RunD}{b:Nat}{w:Wd}
theorem zgN{k l v m:UInt8}{d:Nat}(f:jJ w b R)(hm:R.many<24):Calls PG 330 #[AtR b,u8 k,u8 l,u8 v,u8 m,s32 d] w fun e w' =>
  e = .returned (i64 R.many)/\jJ w' b (jF R k l v m d)/\w.grownBy w' (some b)/\w'.heap.size=w.heap.size:=by
 refine zD 58 [AtR b,u8 k,u8 l,u8 v,u8 m,s32 d] Tryz.func330 ?_;refine⟨_,zc (za f) (i:=18) (zci R),?_⟩;refine DrawE.ord [17] [0,1,2,3,4,5,6,7,8,9,10,11,12,13,14,15,16,17] (by kernel_rfl) ?_;refine⟨_,zc (za (hdr f)) (i:=0) rfl,?_⟩;refine⟨_,w8N _,?_⟩;refine⟨_,w8N _,?_⟩;obtain⟨ev,hev⟩:∃ev:Ev,ev=⟨0,k,l,v,m,UInt8.ofNat R.pc,UInt8.ofNat R.many⟩:=⟨_,rfl⟩;refine⟨evE.enc ev,by rw[hev];rfl,?_⟩;refine⟨R.many,rfl,hm,?_⟩;refine zad k80 (hdr f) (o:=0+19+R.many*7) (v := .agg (evE.enc ev).toArray) rfl (by
  show 0+19+R.many*7+7<=(jd R).length;rw[jM];omega) rfl fun Y fY gY sY=>?_
 have fY:jJ Y b { R with ev:=upd R.ev R.many ev }:=by
  show Y.heap[b]?=some (.cells (jd { R with ev:=upd R.ev R.many ev }).toArray 209 (0,0));rw[<- znS R hm ev,fY,UQ];rfl
 refine⟨R.many,rfl,hm,?_⟩;refine zm zom fY (o:=0+187+R.many*1) (v:=s32 d) rfl rfl (by rw[jM];omega) rfl fun Z fZ gZ sZ=>?_;rw[UQ,UX,zfu _ hm] at fZ;refine DrawE.ord [9] [0,1,2,3,4,5,6,7,8,9] (by kernel_rfl) ?_;refine⟨_,zc (za (hdr fZ)) (i:=17) (zo9 _),?_⟩;refine⟨R.many,rfl,hm,?_⟩;refine zm zom (hdr fZ) (o:=0+211+R.many*1) (v:=s32 R.ctl) rfl rfl (by rw[jM];omega) rfl fun U fU gU sU=>?_;rw[UQ,UX,zfv _ hm] at fU;refine⟨_,zc (za fU) (i:=18) (zci _),?_⟩;refine⟨((R.many+1:Nat):Int),(ze (by show _<=((R.many:Nat):Int)+1/\((R.many:Nat):Int)+1<=_;omega)).trans rfl,?_⟩;refine zm k3 fU (o:=0+18) (v:=i64 (R.many+1:Nat)) rfl rfl (by rw[jM];decide) rfl fun V fV gV sV=>?_;rw[UQ,zkU] at fV;have gd:w.grownBy w.drew (some b):=⟨rfl,rfl,rfl,UW _,fun _ _ _=>rfl⟩;have gd2:Z.grownBy Z.drew (some b):=⟨rfl,rfl,rfl,UW _,fun _ _ _=>rfl⟩;refine⟨rfl,?_,zd (zd (zd (zd gd gY) gZ) (zd gd2 gU)) gV,?_⟩
 ·unfold jF;rw[<- hev];exact fV
 ·rw[sV,sU];show Z.heap.size=_;rw[sZ,sY];rfl
theorem zo4{d v:UInt8}{s:Nat}(f:jJ w b R)(hd:d.toNat<8):Calls PG 331 #[AtR b,u8 d,u8 v,s32 s] w fun e w' =>
  e = .returned (.tuple #[])/\jJ w' b (zkR R d v s)/\w.grownBy w' (some b)/\w'.heap.size=w.heap.size:=by
 refine zD 20 [AtR b,u8 d,u8 v,s32 s] Tryz.func331 ?_;refine⟨d.toNat,rfl,hd,?_⟩;refine zm k5 f (o:=0+1+d.toNat*1) (v:=u8 v) rfl rfl (by rw[jM];omega) rfl fun Y fY gY sY=>?_;rw[UQ,UX,zl3 _ hd] at fY;refine⟨d.toNat,rfl,hd,?_⟩;refine zm zom fY (o:=0+9+d.toNat*1) (v:=s32 s) rfl rfl (by rw[jM];omega) rfl fun Z fZ gZ sZ=>?_;rw[UQ,UX,zl4 _ hd] at fZ;exact⟨rfl,fZ,zd gY gZ,sZ.trans sY⟩
theorem zb5{r:Bool}{n:UInt8}(f:jJ w b R)(hn:r=true->n.toNat<8):Calls PG 332 #[AtR b,.agg #[.bool r,u8 n]] w fun e w' =>
  e = .returned (.tuple #[u8 (qE r n R).1,s32 (qE r n R).2])/\Bw w w':=by
 refine zD 24 [AtR b,.agg #[.bool r,u8 n]] Tryz.func332 ?_;have c:=zt w (.cells #[.bool r,u8 n] 66);have d:Bw w (w.alloc (.cells #[.bool r,u8 n] 66)):=zba w _;refine⟨_,zc (za c) (i:=0) rfl,?_⟩;refine biE (fun h=>?_) fun h=>?_
 ·have a:=hn h;have g:=zb d f;refine DrawE.ord [] [0,1,2,3,4,5,6,7,8,9,10,11,12,13,14,15] (by kernel_rfl) ?_;refine⟨_,zc (za (hdr c)) (i:=1) rfl,?_⟩;refine⟨n.toNat,rfl,a,?_⟩;refine⟨_,by rw[UX,UB];exact zc (za (hdr g)) (zuA R a),?_⟩;refine⟨_,zc (za (hdr c)) (i:=1) rfl,?_⟩;refine⟨n.toNat,rfl,a,?_⟩;refine⟨_,by rw[UX,UB];exact zc (za (hdr g)) (zuB R a),?_⟩;refine⟨?_,d.trans ((Gb _ _).drew)⟩;unfold qE;rw[Gn h];rfl
 ·refine⟨_,zc (za c) (i:=1) rfl,?_⟩;refine⟨?_,d⟩;unfold qE;rw[Gm (by rw[h];exact Kv)];rfl
end
def ze8 (vb fb:Nat):UInt8->Option Value:=fun q =>
 if q=5 then some (.func (.func 153) #[] #[At0 vb]) else if q=4 then some (.func (.func 152) #[] #[At0 vb]) else if q=3 then some (.func (.func 150) #[] #[At0 vb]) else
 if q=2 then some (.func (.func 149) #[] #[At0 fb]) else if q=1 then some (.func (.func 148) #[] #[At0 fb]) else if q=0 then some (.func (.func 147) #[] #[]) else none
theorem zff{w X Y:Wd}{r b:Nat}(h:w.grownBy X (some r))(k:X.grownBy Y (some b))(hb:w.heap.size<=b):w.grownBy Y (some r) :=
 ⟨k.os.trans h.os,k.tape.trans h.tape,k.output.trans h.output,UL h.size k.size,fun i a f=>(k.block i (nL a h.size) (by intro e;cases e;omega)).trans (h.block i a f)⟩
theorem zmP{w X Y:Wd}{r:Nat}(h:w.grownBy X (some r))(k:Bw X Y):w.grownBy Y (some r):=zd h (zi k)
theorem zaa{w X:Wd}{r b n:Nat}{es:Array MapEntry}{cs:Array Value}{t:TypeId}(hr:w.heap[r]?=some (.map es n))(h:w.grownBy X (some r))(hb:w.heap[b]?=some (.cells cs t (0,0))):X.heap[b]?=some (.cells cs t (0,0)) :=
 (h.block b (hlt hb) fun e=>by cases e;rw[hr] at hb;cases hb).trans hb
structure JudV (X:Wd) (B jb rk rn vb fb:Nat) (F:FinV) (g:PlK->Option Value):Prop where
 j:X.heap[jb]?=some (.cells #[.map (some rk),.map (some rn)] 235 (0,0))
 v:X.heap[vb]?=some (.cells #[At0 jb] 165 (0,0))
 f:X.heap[fb]?=some (.cells (zx.enc F).toArray 52 (0,0))
 kn:MapF u8 X rk (ze8 vb fb)
 mn:MapF plV X rn g
 ok:KnowOk B F X g
 ne:rk≠rn
 hB:B<=rn/\B<=X.heap.size
section
variable{w X:Wd}{B jb rk rn vb fb:Nat}{F:FinV}{g:PlK->Option Value}
theorem JudV.rmap(h:JudV w B jb rk rn vb fb F g):∃(es:Array MapEntry) (n:Nat),w.heap[rn]?=some (.map es n):=by
 obtain⟨es,n,h,_⟩:=h.mn;exact⟨_,n,h⟩
theorem JudV.below(h:JudV w B jb rk rn vb fb F g)(hb:Bw w X):JudV X B jb rk rn vb fb F g :=
 ⟨zb hb h.j,zb hb h.v,zb hb h.f,h.kn.below hb,h.mn.below hb,h.ok.by fun k b t _ a=>hb.block k (hlt a),h.ne,h.hB.1,UL h.hB.2 hb.size⟩
theorem JudV.grown{g':PlK->Option Value}(h:JudV w B jb rk rn vb fb F g)(hg:w.grownBy X (some rn))(hm:MapF plV X rn g')(hk:KnowOk B F X g'):JudV X B jb rk rn vb fb F g':=by
 obtain⟨i,n,a⟩:=h.rmap;refine⟨zaa a hg h.j,zaa a hg h.v,zaa a hg h.f,h.kn.same (hg.block rk ?_ fun e=>h.ne (by cases e;rfl)),hm,hk,h.ne,h.hB.1,UL h.hB.2 hg.size⟩;obtain⟨_,_,b,_⟩:=h.kn;exact hlt b
theorem JudV.other{b:Nat}(h:JudV w B jb rk rn vb fb F g)(hg:w.grownBy X (some b))(h1:jb≠b/\vb≠b/\fb≠b/\rk≠b/\rn≠b)(hb:B<=b):JudV X B jb rk rn vb fb F g:=by
 have s:∀{k:Nat} {o:Obj},k≠b->w.heap[k]?=some o->X.heap[k]?=w.heap[k]?:=fun{k o} m a=>hg.block k (hlt a) fun e=>m (by cases e;rfl);obtain⟨_,_,n,_⟩:=h.kn;obtain⟨_,_,i,_⟩:=h.mn;exact⟨(s h1.1 h.j).trans h.j,(s h1.2.1 h.v).trans h.v,(s h1.2.2.1 h.f).trans h.f,h.kn.same (s h1.2.2.2.1 n),h.mn.same (s h1.2.2.2.2 i),h.ok.by fun k p t hB l=>s (by omega) l,h.ne,h.hB.1,UL h.hB.2 hg.size⟩
theorem JudV.kids(h:JudV w B jb rk rn vb fb F g)(hg:w.grownBy X (some rn)){q:OA}{l:List Cnd}(hk:KidsG B w q l):KidsG B X q l:=hk.by fun k b t hB a=>hg.block k (hlt a) fun e=>by cases e;have:=h.hB;omega
def JudS (B jb rk rn vb fb:Nat) (F:FinV) (w X:Wd):Prop:=(∃g,JudV X B jb rk rn vb fb F g)/\w.grownBy X (some rn)
theorem JudS.of_below(h:JudV w B jb rk rn vb fb F g)(hb:Bw w X):JudS B jb rk rn vb fb F w X:=⟨⟨g,h.below hb⟩,zi hb⟩
end
abbrev zaq (F:FinV):Value := .agg (zx.enc F).toArray
abbrev zbK (c:Cnd) (q:OA) (cap:Nat):Value := .agg (zu c q cap).toArray
section
variable{w:Wd}{c:Cnd}{q:OA}{cap:Nat}{d:Nat}{B jb rk rn vb fb:Nat}{F:FinV}{g:PlK->Option Value}
theorem ze5{a b:Nat}:decide ((a:Int)<(b:Int))=decide (a<b):=QC.2 Int.ofNat_lt
theorem zcf{x y:UInt8}:decide (((x.toNat:Nat):Int)=((y.toNat:Nat):Int))=decide (x=y):=QC.2 qS
theorem zbF{X:Wd}{l:List Cnd}(hJ:JudV w B jb rk rn vb fb F g)(hb:Bw w X)(hk:KidsG B w q l):KidsG B X q l:=hk.by fun k b t _ a=>hb.block k (hlt a)
theorem zs9:CB 147 #[zbK c q cap,i64 d] w (.bool true):=by
 refine zD 5 [zbK c q cap,i64 d] Tryz.func147 ?_;exact⟨rfl,(zba w _)⟩
theorem zpJ{t r:Nat}(ht:t<4)(hr:r<8):(zx.enc F)[t*8+r]?=some (u8 (F.reg t r)):=by
 show(F.l.map u8)[t*8+r]?=_;have:=F.len;rw[KT,gE (by omega),FinV.reg,gDe,gE (by omega)];rfl
theorem zpK{i:Nat}(hi:i<6):(zx.enc F)[32+i]?=some (u8 (F.mem i)):=by
 show(F.l.map u8)[32+i]?=_;have:=F.len;rw[KT,gE (by omega),FinV.mem,gDe,gE (by omega)];rfl
theorem zs8(hf:w.heap[fb]?=some (.cells (zx.enc F).toArray 52 (0,0))):Calls PG 148 #[zbK c q cap,i64 d,At0 fb] w fun e w' =>
  e = .returned (.bool (decide (c.thread.toNat<4)&&(decide (c.n.toNat<8)&&decide (F.reg c.thread.toNat c.n.toNat=c.val))))/\Bw w w':=by
 refine zD 27 [zbK c q cap,i64 d,At0 fb] Tryz.func148 ?_;have f:=zt w (.cells (zu c q cap).toArray 27);have k:Bw w (w.alloc (.cells (zu c q cap).toArray 27)).drew:=((zba w _)).drew;have hf:=zb k hf;refine DrawE.ord [] [0,1,2,3,4,5,6,7,8,9,10,11,12,13,14,15,16,17,18,19,20,21] (by kernel_rfl) ⟨_,zc (za (hdr f)) (i:=1) rfl,biE (fun h=>?_) fun h=>?_⟩
 ·have j:c.thread.toNat<4:=dT ((ze5 (b:=4)).symm.trans h);refine⟨_,zc (za (hdr f)) (i:=2) rfl,biE (fun h=>?_) fun h=>?_⟩
  ·have a:c.n.toNat<8:=dT ((ze5 (b:=8)).symm.trans h);refine⟨_,zc (za (hdr f)) (i:=1) rfl,_,zc (za (hdr f)) (i:=2) rfl,c.thread.toNat,rfl,j,c.n.toNat,rfl,a,?_⟩;refine⟨_,by
    have:=zc (za hf) (zpJ (F:=F) j a);rw[UX,UB];exact this,?_⟩
   refine⟨_,zc (za (hdr f)) (i:=3) rfl,?_,k⟩;rw[Up j,Up a,<- zcf];rfl
  ·have a:¬c.n.toNat<8:=dF ((ze5 (b:=8)).symm.trans h);refine⟨?_,k⟩;rw[Ue a,Ug,Uf];rfl
 ·have j:¬c.thread.toNat<4:=dF ((ze5 (b:=4)).symm.trans h);refine brF ⟨?_,k⟩;rw[Ue j,Ug];rfl
theorem zs7(hf:w.heap[fb]?=some (.cells (zx.enc F).toArray 52 (0,0))):Calls PG 149 #[zbK c q cap,i64 d,At0 fb] w fun e w' =>
  e = .returned (.bool (decide (c.n.toNat<6)&&decide (F.mem c.n.toNat=c.val)))/\Bw w w':=by
 refine zD 19 [zbK c q cap,i64 d,At0 fb] Tryz.func149 ?_;have f:=zt w (.cells (zu c q cap).toArray 27);have j:Bw w (w.alloc (.cells (zu c q cap).toArray 27)).drew:=((zba w _)).drew;have hf:=zb j hf;refine DrawE.ord [] [0,1,2,3,4,5,6,7,8,9,10,11,12,13] (by kernel_rfl) ⟨_,zc (za (hdr f)) (i:=2) rfl,biE (fun h=>?_) fun h=>?_⟩
 ·have a:c.n.toNat<6:=dT ((ze5 (b:=6)).symm.trans h);refine⟨_,zc (za (hdr f)) (i:=2) rfl,c.n.toNat,rfl,a,?_⟩;refine⟨_,by
   have:=zc (za hf) (zpK (F:=F) a);rw[UX,UB];exact this,?_⟩
  refine⟨_,zc (za (hdr f)) (i:=3) rfl,?_,j⟩;rw[Up a,<- zcf];rfl
 ·have a:¬c.n.toNat<6:=dF ((ze5 (b:=6)).symm.trans h);refine⟨?_,j⟩;rw[Ue a,Ug];rfl
def zjo (B jb rk rn vb fb:Nat) (F:FinV) (d:Nat):Prop:=∀(X:Wd) (g:PlK->Option Value) (q:OA) (l:List Cnd) (cap:Nat),JudV X B jb rk rn vb fb F g->KidsG B X q l ->
 Calls PG 151 #[At0 jb,.slice q l.length cap,i64 d] X fun e Y=>e = .returned (zoN F d l)/\JudS B jb rk rn vb fb F X Y
theorem zs6(hd:d<=20)(hJ:JudV w B jb rk rn vb fb F g)(hk:KidsG B w q c.kids)(hK:zjo B jb rk rn vb fb F (d+1)):Calls PG 150 #[zbK c q cap,i64 d,At0 vb] w fun e w' =>
  e = .returned (.bool (c.kids.all (qP F (20-d))))/\JudS B jb rk rn vb fb F w w':=by
 refine zD 13 [zbK c q cap,i64 d,At0 vb] Tryz.func150 ?_;have k:=zt w (.cells (zu c q cap).toArray 27);have b:Bw w (w.alloc (.cells (zu c q cap).toArray 27)):=zba w _;have a:=hJ.below b;refine⟨_,zc (za a.v) (i:=0) rfl,_,zc (za k) (i:=4) rfl,((d+1:Nat):Int),(ze (by omega)).trans rfl,cmo (hK _ g q c.kids cap a (zbF hJ b hk)) ?_⟩;rintro e Y ⟨rfl,⟨j,h⟩,f⟩;refine⟨?_,⟨j,h⟩,zd (zi b) f⟩;rw[show 21-(d+1)=20-d by omega];rfl
theorem zs5(hd:d<=20)(hJ:JudV w B jb rk rn vb fb F g)(hk:KidsG B w q c.kids)(hK:zjo B jb rk rn vb fb F (d+1)):Calls PG 152 #[zbK c q cap,i64 d,At0 vb] w fun e w' =>
  e = .returned (.bool (c.kids.any (qP F (20-d))))/\JudS B jb rk rn vb fb F w w':=by
 refine zD 13 [zbK c q cap,i64 d,At0 vb] Tryz.func152 ?_;have k:=zt w (.cells (zu c q cap).toArray 27);have b:Bw w (w.alloc (.cells (zu c q cap).toArray 27)):=zba w _;have a:=hJ.below b;refine⟨_,zc (za a.v) (i:=0) rfl,_,zc (za k) (i:=4) rfl,((d+1:Nat):Int),(ze (by omega)).trans rfl,cmo (hK _ g q c.kids cap a (zbF hJ b hk)) ?_⟩;rintro e Y ⟨rfl,⟨j,h⟩,f⟩;refine⟨?_,⟨j,h⟩,zd (zi b) f⟩;rw[show 21-(d+1)=20-d by omega];rfl
theorem zs4(hd:d<=20)(hJ:JudV w B jb rk rn vb fb F g)(hk:KidsG B w q c.kids)(hK:zjo B jb rk rn vb fb F (d+1)):Calls PG 153 #[zbK c q cap,i64 d,At0 vb] w fun e w' =>
  e = .returned (.bool (!c.kids.all (qP F (20-d))))/\JudS B jb rk rn vb fb F w w':=by
 refine zD 14 [zbK c q cap,i64 d,At0 vb] Tryz.func153 ?_;have k:=zt w (.cells (zu c q cap).toArray 27);have b:Bw w (w.alloc (.cells (zu c q cap).toArray 27)):=zba w _;have a:=hJ.below b;refine⟨_,zc (za a.v) (i:=0) rfl,_,zc (za k) (i:=4) rfl,((d+1:Nat):Int),(ze (by omega)).trans rfl,cmo (hK _ g q c.kids cap a (zbF hJ b hk)) ?_⟩;rintro e Y ⟨rfl,⟨j,h⟩,f⟩;refine⟨?_,⟨j,h⟩,zd (zi b) f⟩;rw[show 21-(d+1)=20-d by omega];rfl
end
section
variable{w:Wd}{c:Cnd}{q:OA}{cap:Nat}{d:Nat}{B jb rk rn vb fb:Nat}{F:FinV}{g:PlK->Option Value}
theorem zoW{T:TypeId}{v:Value}(h:(Tryz.prog.info? T).bind (fun i=>i.zero)=some v)(w:Wd):(zeroValue T).run PG w = .ok v w:=by
 cases hi:Tryz.prog.info? T with
 | none=>rw [hi] at h;cases h
 | some inf =>
  rw[hi] at h;have h:inf.zero=some v:=h;simp[zeroValue,typeInfo,hi,h]
theorem zq5{w:Wd}(h:MapF u8 w rk (ze8 vb fb))(k:UInt8):(Instr.lookup 233 (.map (some rk)) (u8 k) true).run PG w = .ok (.tuple #[(ze8 vb fb k).getD .nilFunc,.bool (ze8 vb fb k).isSome]) w :=
 zok zhX Tryz.underlying233 (z := .nilFunc) (zoW (by kernel_rfl)) h k true
theorem zpG(hd:d<=20)(hJ:JudV w B jb rk rn vb fb F g)(hk:KidsG B w q c.kids)(hK:zjo B jb rk rn vb fb F (d+1)):Calls PG 81 #[At0 jb,zbK c q cap,i64 d] w fun e w' =>
  e = .returned (.bool (qP F (21-d) c))/\JudS B jb rk rn vb fb F w w':=by
 refine zD 30 [At0 jb,zbK c q cap,i64 d] Tryz.func81 ?_;obtain⟨X,z⟩:=nm ((w.alloc (.cells (zu c q cap).toArray 27)).drew);have n:X.heap[w.heap.size]?=some (.cells (zu c q cap).toArray 27 (0,0)):=by rw[z];exact zt w _
 have y:Bw w X:=by rw[z];exact((zba w _)).drew
 have a:=hJ.below y;have o:=zbF hJ y hk;have x:(w.alloc (.cells (Value.agg (zu c q cap).toArray).cells 27)).drew=X:=z.symm;have ab:qP F (21-d) c=qP F (20-d+1) c:=by rw[show 21-d=20-d+1 by omega]
 have k:∀{b:Bool} {Y:Wd},qP F (20-d+1) c=b->JudS B jb rk rn vb fb F X Y->Ending.returned (.bool b)=Ending.returned (.bool (qP F (21-d) c))/\JudS B jb rk rn vb fb F w Y:=fun{b Y} h l=>⟨by rw[ab,h],l.1,zd (zi y) l.2⟩;have m:decide ((d:Int)<=20)=true:=Up (by omega);refine DrawE.ord [] [0,1,2,3,4,5,6,7,8,9,10,11] (by kernel_rfl) ?_;rw[x];refine⟨_,zc (za a.j) (i:=0) rfl,_,zc (za n) (i:=0) rfl,_,fun w2 aa=>zq5 (a.kn.below aa) c.kind,?_⟩;by_cases r:c.kind=5
 ·rw[r];refine brT (brE m ⟨zu c q cap,rfl,za n,hlt n,cmo (zs4 hd a o hK) ?_⟩);rintro e Y ⟨rfl,l⟩;exact k (by unfold qP;rw[r];rfl) l
 by_cases p:c.kind=4
 ·rw[p];refine brT (brE m ⟨zu c q cap,rfl,za n,hlt n,cmo (zs5 hd a o hK) ?_⟩);rintro e Y ⟨rfl,l⟩;exact k (by unfold qP;rw[p];rfl) l
 by_cases v:c.kind=3
 ·rw[v];refine brT (brE m ⟨zu c q cap,rfl,za n,hlt n,cmo (zs6 hd a o hK) ?_⟩);rintro e Y ⟨rfl,l⟩;exact k (by unfold qP;rw[v];rfl) l
 by_cases u:c.kind=2
 ·rw[u];refine brT (brE m ⟨zu c q cap,rfl,za n,hlt n,cmo (zs7 a.f) ?_⟩);rintro e Y ⟨rfl,l⟩;exact k (by unfold qP;rw[u];rfl) (.of_below a l)
 by_cases s:c.kind=1
 ·rw[s];refine brT (brE m ⟨zu c q cap,rfl,za n,hlt n,cmo (zs8 a.f) ?_⟩);rintro e Y ⟨rfl,l⟩;exact k (by unfold qP;rw[s];rfl) (.of_below a l)
 by_cases t:c.kind=0
 ·rw[t];refine brT (brE m ⟨zu c q cap,rfl,za n,hlt n,cmo zs9 ?_⟩);rintro e Y ⟨rfl,l⟩;exact k (by unfold qP;rw[t];rfl) (.of_below a l)
 ·have e:ze8 vb fb c.kind=none:=by unfold ze8;rw[Gm r,Gm p,Gm v,Gm u,Gm s,Gm t]
  rw[e];exact brF (brF (k (by unfold qP;rw[Gm t,Gm s,Gm u,Gm v,Gm p,Gm r]) (.of_below a (Gb _ _))))
theorem zq4{w:Wd}(hm:MapF plV w rn g)(hk:KnowOk B F w g){k:PlK}(hp:PlainAt w k):(Instr.lookup 232 (.map (some rn)) (plV k) true).run PG w = .ok (.tuple #[(g k).getD (.agg #[.bool false,.bool false]),.bool (g k).isSome]) w :=
 zu3 (zxX w) Tryz.underlying232 (z := .agg #[.bool false,.bool false]) (zoW (by kernel_rfl)) hm k (fun q v h=>hk.at h) hp true
theorem PlainAt.below{w w2:Wd}{k:PlK}(h:PlainAt w k)(hb:Bw w w2):PlainAt w2 k:=by
 obtain⟨a,t,h⟩:=h;exact⟨a,t,zb hb h⟩
end
section
variable{w:Wd}{q:OA}{cap:Nat}{d:Nat}{B jb rk rn vb fb:Nat}{F:FinV}
abbrev zlH (s a:Bool):List Value:=[.bool s,.bool a]
structure KidI (w:Wd) (B jb rk rn vb fb:Nat) (F:FinV) (d:Nat) (k:PlK) (l:List Cnd) (b8 i:Nat) (X:Wd):Prop where
 J:∃g,JudV X B jb rk rn vb fb F g
 gr:w.grownBy X (some rn)
 f6:X.heap[w.heap.size]?=some (.cells (zlH false false).toArray 237 (0,0))
 f7:X.heap[w.heap.size+1]?=some (.cells (plV k).cells 300 (0,0))
 f8:X.heap[b8]?=some (.cells (zlH ((l.take i).any (qP F (21-d))) ((l.take i).all (qP F (21-d)))).toArray 237 (0,0))
theorem JudV.lt{X:Wd}{g:PlK->Option Value}(h:JudV X B jb rk rn vb fb F g){b:Nat}(hb:X.heap.size<=b):jb≠b/\vb≠b/\fb≠b/\rk≠b/\rn≠b:=by
 obtain⟨_,_,c,_⟩:=h.kn;obtain⟨_,_,a,_⟩:=h.mn;have:=hlt h.j;have:=hlt h.v;have:=hlt h.f;have:=hlt c;have:=hlt a;omega
theorem zkz{α:Type}{p:α->Bool}{l:List α}{i:Nat}(h:i<l.length):(l.take (i+1)).any p=((l.take i).any p||p l[i]):=by
 rw[tsg h,List.any_append];simp
theorem zrF{α:Type}{p:α->Bool}{l:List α}{i:Nat}(h:i<l.length):(l.take (i+1)).all p=((l.take i).all p&&p l[i]):=by
 rw[tsg h,QF];simp
theorem zkb(hd:d<=21)(hK:d<=20->zjo B jb rk rn vb fb F (d+1)):zjo B jb rk rn vb fb F d:=by
 intro w g q l cap hJ hk;refine qA 68 [At0 jb,.slice q l.length cap,i64 d] (.s .p (.s .p (.s .p (.c .p (.c .p (.s .p (.c .p (.c (.c .p (.b (.l (.s .p (.s .p (.s (.b (.c .p (.c .p (.s .p .p)))) .p)))))) .p)))))))) Tryz.func151 ?_;obtain⟨L,hL⟩:=nm (w.heap.size);have bl:=hk.inv.1;have u:=zt w (.cells #[.bool false,.bool false] 237);have ar:Bw w (w.alloc (.cells #[.bool false,.bool false] 237)):=zba w _;refine biE (fun h=>?_) fun h=>?_
 ·have h0:l.length=0:=by have:=dT h;omega
  have hl:l=[]:=Jf h0;subst hl;exact⟨_,rfl,zp (v := .agg #[.bool false,.bool true]) zs2 u rfl rfl rfl ⟨zlH false true,rfl,za (zn u),rfl,.of_below hJ (zk ar (UW _) _)⟩⟩
 have h0:l.length≠0:=by have:=dF h;omega
 refine biE (fun h=>?_) fun h=>?_
 ·have az:d=21:=by have:=dT h;omega
  subst az;refine⟨_,rfl,zp (v := .agg #[.bool false,.bool false]) zs2 u rfl rfl rfl ⟨zlH false false,rfl,za (zn u),?_,.of_below hJ (zk ar (UW _) _)⟩⟩;have e1:l.any (qP F 0)=false:=by rw[KM];intro a _ h;cases h
  have e2:l.all (qP F 0)=false:=by
   cases l with
   | nil=>exact Gp rfl h0
   | cons a r=>rfl
  show _=Ending.returned (.agg #[.bool (l.any (qP F 0)),.bool (l.all (qP F 0))]);rw[e1,e2];rfl
 have ap:d<=20:=by have:=dF h;omega
 have hK:=hK ap;clear h;obtain⟨b,o,rfl,bc,bg,bm⟩:=hk.plain h0;have bj:b<w.heap.size:=nL bc hJ.hB.2;refine⟨Unit,fun _=>⟨[(0,At0 jb),(1,.slice (some ⟨b,o,none⟩) l.length cap),(2,i64 d),(6,At0 L),(7,At0 (L+1))],[]⟩,
  fun _ X=>Bw w X/\X.heap[w.heap.size]?=some (.cells (zlH false false).toArray 237 (0,0))/\X.heap[w.heap.size+1]?=some (.cells (plV (b,o,l.length,d)).cells 300 (0,0)),?_,?_⟩
 ·refine⟨0,rfl,by omega,?_⟩;refine⟨_,rfl,?_⟩;have f7:=zt (w.alloc (.cells #[.bool false,.bool false] 237)) (.cells #[.pointer none,.int .i64 0,.int .i64 0] 300);have e1:(w.alloc (.cells #[.bool false,.bool false] 237)).heap.size=w.heap.size+1:=wz _ _;refine zp (v:=plV (b,o,l.length,d)) zyy f7 rfl rfl rfl ?_;have ak:=zk (ar.alloc (by omega) (.cells #[.pointer none,.int .i64 0,.int .i64 0] 300)) (g:=(w.alloc (.cells #[.bool false,.bool false] 237)).heap.size) (by omega) (plV (b,o,l.length,d)).cells;refine⟨(),⟨.cons rfl (.cons rfl (.cons rfl (.cons (by rw[hL];rfl) (.cons (by rw[hL,<- e1];rfl) .nil)))),rfl⟩,ak,?_,?_⟩
  ·exact(zr (by omega)).trans (qO _ u)
  ·have:=zn (cs':=(plV (b,o,l.length,d)).cells) f7;rw[e1] at this ⊢;exact this
 rintro _ X ⟨an,u,f7⟩;have ab:=hJ.below an;have ax:=zbF hJ an hk;have a7:PlainAt X (b,o,l.length,d):=PlainAt.below (w:=w) bg an;refine⟨Nat,fun s=>⟨[(0,At0 jb),(1,.slice (some ⟨b,o,none⟩) l.length cap),(2,i64 d),(6,At0 L),(7,At0 (L+1)),(8,At0 s),(9,.bool (g (b,o,l.length,d)).isSome)],[]⟩,
  fun s Y=>s=X.heap.size/\Bw X Y/\Y.heap[s]?=some (.cells ((g (b,o,l.length,d)).getD (.agg #[.bool false,.bool false])).cells 237 (0,0)),?_,?_⟩
 ·refine DrawE.ord [10] [0,1,2,3,4,5,6,7,8,9,10,11] (by kernel_rfl) ⟨_,zc (za (hdr ab.j)) (i:=1) rfl,_,rfl,by rw[hL];exact za (hdr f7),by have:=hlt f7;rw[hL];exact this,?_⟩;refine⟨_,fun w2 ak=>zq4 (ab.below ((Gb _ X).drew.trans (ak.mono (UW _)))).mn (ab.below ((Gb _ X).drew.trans (ak.mono (UW _)))).ok (a7.below ((Gb _ X).drew.trans (ak.mono (UW _)))),?_⟩;have f:=zt X.drew (.cells #[.bool false,.bool false] 237);refine⟨(zba _ _),?_⟩;have hv:∃s a,(g (b,o,l.length,d)).getD (.agg #[.bool false,.bool false]) = .agg (zlH s a).toArray:=by
   cases e:g (b,o,l.length,d) with
   | none=>exact⟨false,false,rfl⟩
   | some v=>exact⟨_,_,ab.ok.use ax e⟩
  obtain⟨s,a,hv⟩:=hv;rw[hv];exact zp (v := .agg (zlH s a).toArray) zs2 f rfl rfl rfl ⟨X.heap.size,(cvE rfl rfl),rfl,zk ((Gb _ X).drew.alloc (UW _) _) (UW _) _,zn f⟩
 rintro s Y ⟨hs,ai,f⟩;have aw:=zst an ai;have ao:=zb ai u;have a3:=zb ai f7;have a0:=ab.below ai;refine biE (fun h=>?_) fun h=>?_
 ·obtain⟨v,hv⟩:=Option.isSome_iff_exists.1 h;have bb:=ab.ok.use ax hv;rw[hv,bb] at f;refine⟨_,rfl,za f,hlt f,?_⟩;rw[hL];exact zp (v:=zoN F d l) zs2 ao rfl rfl rfl ⟨_,rfl,za (zn ao),rfl,.of_below hJ (zk aw (UW _) _)⟩
 have hv:g (b,o,l.length,d)=none:=Option.not_isSome_iff_eq_none.1 (by rw[h];decide);rw[hv] at f;clear h;have f:Y.heap[s]?=some (.cells (zlH false false).toArray 237 (0,0)):=f;have bi:w.heap.size+2<=s:=by have:=hlt f7;omega
 have a2:=hJ.lt (b:=s) (by omega);have a8:B<=s:=by have:=hJ.hB;omega
 refine⟨Unit,fun _=>⟨[(0,At0 jb),(1,.slice (some ⟨b,o,none⟩) l.length cap),(2,i64 d),(6,At0 L),(7,At0 (L+1)),(8,At0 s)],[]⟩,
  fun _ Z=>KidI w B jb rk rn vb fb F d (b,o,l.length,d) l s 0 Z,?_,?_⟩
 ·refine zm k4 f (o:=0+1) (v := .bool true) rfl rfl (by decide) rfl fun Z fZ gZ sZ=>?_;have ag:∀{k:Nat} {ob:Obj},k≠s->Y.heap[k]?=some ob->Z.heap[k]?=some ob:=fun{k ob} hk af=>(gZ.block k (hlt af) fun e=>hk (by cases e;rfl)).trans af;exact⟨(),(cvE rfl rfl),⟨g,a0.other gZ a2 a8⟩,zff (zi aw) gZ (by omega),ag (by omega) ao,ag (by omega) a3,fZ⟩
 rintro _ Z hI;clear f a3 ao a0 aw ai u f7 ab ax a7;refine⟨Unit,fun _=>⟨[(0,At0 jb),(2,i64 d),(6,At0 L),(7,At0 (L+1)),(8,At0 s)],[]⟩,
  fun _ Z=>KidI w B jb rk rn vb fb F d (b,o,l.length,d) l s l.length Z,?_,?_⟩
 ·refine⟨Nat,fun k=>⟨[(0,At0 jb),(1,.slice (some ⟨b,o,none⟩) l.length cap),(2,i64 d),(6,At0 L),(7,At0 (L+1)),(8,At0 s),(38,.slice (some ⟨b,o,none⟩) l.length cap),(39,i64 l.length),(40,i64 k)],[]⟩,fun k Z=>k=0/\KidI w B jb rk rn vb fb F d (b,o,l.length,d) l s 0 Z,⟨0,(cvE rfl rfl),rfl,hI⟩,?_⟩;rintro _ Z ⟨rfl,hI⟩;refine⟨Nat,fun k=>⟨[(0,At0 jb),(1,.slice (some ⟨b,o,none⟩) l.length cap),(2,i64 d),(6,At0 L),(7,At0 (L+1)),(8,At0 s),(38,.slice (some ⟨b,o,none⟩) l.length cap),(39,i64 l.length),(40,i64 k)],[]⟩,
   fun k Z=>k<=l.length/\KidI w B jb rk rn vb fb F d (b,o,l.length,d) l s k Z,fun k=>l.length-k,0,(cvE rfl rfl),⟨UZ _,hI⟩,?_⟩
  rintro k Z ⟨z,hI⟩;refine biE (fun h=>?_) fun h=>?_
  ·have z:k<l.length:=by have:=dT h;omega
   clear h;obtain⟨c,hc⟩:=nm (l[k]);refine⟨Nat×OA×Nat,fun x=>⟨[(0,At0 jb),(1,.slice (some ⟨b,o,none⟩) l.length cap),(2,i64 d),(6,At0 L),(7,At0 (L+1)),(8,At0 s),(38,.slice (some ⟨b,o,none⟩) l.length cap),(39,i64 l.length),(40,i64 k),(11,At0 x.1)],[]⟩,fun x U=>KidI w B jb rk rn vb fb F d (b,o,l.length,d) l s k U/\KidsG B U x.2.1 c.kids/\U.heap[x.1]?=some (.cells (zu c x.2.1 x.2.2).toArray 27 (0,0)),?_,?_⟩
   ·obtain⟨⟨g1,J1⟩,gr,u,f7,f⟩:=hI;have a9:=hJ.kids gr hk;obtain⟨b',o',au,_,al,a5⟩:=a9.plain h0
    cases au
    obtain⟨qk,ck,a6,aj⟩:=a5 k z;rw[<- hc] at a6 aj;have bh:b<Z.heap.size:=(by obtain⟨_,_,h⟩:=al;exact hlt h);refine⟨k,rfl,z,zu c qk ck,rfl,a6,bh,?_⟩;have a4:=zt Z (.cells #[.int .u8 0,.int .u8 0,.int .u8 0,.int .u8 0,.slice none 0 0] 27);refine zp (v:=zbK c qk ck) k27 a4 rfl rfl rfl ?_;have m:=zk ((Gb Z.heap.size Z).alloc (UW _) (.cells #[.int .u8 0,.int .u8 0,.int .u8 0,.int .u8 0,.slice none 0 0] 27)) (UW Z.heap.size) (zbK c qk ck).cells;exact⟨(Z.heap.size,qk,ck),(cvE rfl rfl),⟨⟨g1,J1.below m⟩,zmP gr m,zb m u,zb m f7,zb m f⟩,zbF J1 m aj,zn a4⟩
   rintro⟨bk,qk,ck⟩ U ⟨⟨⟨g1,J1⟩,gr,u,f7,f⟩,aj,av⟩;dsimp only at aj av;refine⟨Unit,fun _=>⟨[(0,At0 jb),(1,.slice (some ⟨b,o,none⟩) l.length cap),(2,i64 d),(6,At0 L),(7,At0 (L+1)),(8,At0 s),(38,.slice (some ⟨b,o,none⟩) l.length cap),(39,i64 l.length),(40,i64 k),(12,.bool (qP F (21-d) c))],[]⟩,fun _ V=>KidI w B jb rk rn vb fb F d (b,o,l.length,d) l s k V,?_,?_⟩
   ·refine⟨zu c qk ck,rfl,za av,hlt av,cmo (zpG ap J1 aj hK) ?_⟩;rintro e V ⟨rfl,hV,gV⟩;obtain⟨es,n,ae⟩:=J1.rmap;exact⟨(),(cvE rfl rfl),hV,zd gr gV,zaa ae gV u,zaa ae gV f7,zaa ae gV f⟩
   rintro _ V ⟨⟨g3,J3⟩,bf,u,f7,f⟩;obtain⟨S,hS⟩:=nm ((l.take k).any (qP F (21-d)));obtain⟨A,hA⟩:=nm ((l.take k).all (qP F (21-d)));obtain⟨H,hH⟩:=nm (qP F (21-d) c);rw[<- hS,<- hA] at f;rw[<- hH];have step:∀(x y:Bool) (V1 V2:Wd),V.grownBy V1 (some s)->V1.grownBy V2 (some s)->x=(S||H)->y=(A&&H)->V2.heap[s]?=some (.cells (zlH x y).toArray 237 (0,0)) ->
     KidI w B jb rk rn vb fb F d (b,o,l.length,d) l s (k+1) V2:=fun x y V1 V2 g1 g2 hx hy hf=>by
    have ay:V.grownBy V2 (some s):=zd g1 g2;have ag:∀{k:Nat} {ob:Obj},k≠s->V.heap[k]?=some ob->V2.heap[k]?=some ob:=fun{k ob} hk af=>(ay.block k (hlt af) fun e=>hk (by cases e;rfl)).trans af;refine⟨⟨g3,J3.other ay a2 a8⟩,zff bf ay (by omega),ag (by omega) u,ag (by omega) f7,?_⟩;rw[zkz z,zrF z,<- hS,<- hA,<- hc,<- hH,<- hx,<- hy];exact hf
   refine⟨_,zc (za f) (i:=0) rfl,biE (fun h1=>?_) fun h1=>?_⟩
   ·refine zm k4 f (o:=0+0) (v := .bool true) rfl rfl (by show 0<2;decide) rfl fun V1 ad ah be=>⟨_,zc (za ad) (i:=1) rfl,biE (fun h2=>?_) fun h2=>?_⟩
    ·exact zm k4 ad (o:=0+1) (v := .bool H) rfl rfl (by show 1<2;decide) rfl fun V2 ac aa aq=>⟨_,ze (by omega),k+1,(cvE rfl rfl),⟨z,step true H V1 V2 ah aa (by rw[h1];rfl) (by rw[h2];rfl) ac⟩,by dsimp only;omega⟩
    ·exact zm k4 ad (o:=0+1) (v := .bool false) rfl rfl (by show 1<2;decide) rfl fun V2 ac aa aq=>⟨_,ze (by omega),k+1,(cvE rfl rfl),⟨z,step true false V1 V2 ah aa (by rw[h1];rfl) (by rw[h2];rfl) ac⟩,by dsimp only;omega⟩
   ·refine zm k4 f (o:=0+0) (v := .bool H) rfl rfl (by show 0<2;decide) rfl fun V1 ad ah be=>⟨_,zc (za ad) (i:=1) rfl,biE (fun h2=>?_) fun h2=>?_⟩
    ·exact zm k4 ad (o:=0+1) (v := .bool H) rfl rfl (by show 1<2;decide) rfl fun V2 ac aa aq=>⟨_,ze (by omega),k+1,(cvE rfl rfl),⟨z,step H H V1 V2 ah aa (by rw[h1];rfl) (by rw[h2];rfl) ac⟩,by dsimp only;omega⟩
    ·exact zm k4 ad (o:=0+1) (v := .bool false) rfl rfl (by show 1<2;decide) rfl fun V2 ac aa aq=>⟨_,ze (by omega),k+1,(cvE rfl rfl),⟨z,step H false V1 V2 ah aa (by rw[h1];rfl) (by rw[h2];rfl) ac⟩,by dsimp only;omega⟩
  ·have bd:k=l.length:=by have:=dF h;omega
   subst bd;exact⟨(),(cvE rfl rfl),hI⟩
 rintro _ U ⟨⟨g1,J1⟩,gr,u,f7,f⟩;rw[Qt] at f;have a1:=hJ.kids gr hk;have ba:PlainAt U (b,o,l.length,d):=by
  obtain⟨_,_,au,_,al,_⟩:=a1.plain h0
  cases au
  exact al
 have am:Bw U U.drew:=(Gb _ U).drew;refine DrawE.ord [6] [0,1,2,3,4,5,6] (by kernel_rfl) ⟨_,zc (za (hdr J1.j)) (i:=1) rfl,_,rfl,by rw[hL];exact za (hdr f7),by have:=hlt f7;rw[hL];exact this,?_⟩;refine⟨_,rfl,za (hdr f),hlt f,?_⟩;obtain⟨ob,r1,m1⟩:=zoi (zxX U.drew) Tryz.underlying232 (J1.mn.below am) (b,o,l.length,d) (zoN F d l) (fun q v e=>(J1.ok.at e).below am) (ba.below am);refine⟨_,_,r1,?_⟩;have gp:U.grownBy (U.drew.putObj rn ob) (some rn):=zd (zi am) (zrc U.drew rn ob);have J2:JudV (U.drew.putObj rn ob) B jb rk rn vb fb F _:=J1.grown gp m1 ((J1.ok.add a1 h0 (d:=d)).by fun k cs t hB hc=>gp.block k (hlt hc) fun e=>by cases e;have:=J1.hB;omega);obtain⟨es,n,ae⟩:=J1.rmap;have u:=zaa ae gp u;have f:=zaa ae gp f;refine⟨_,rfl,za f,hlt f,?_⟩;rw[hL];exact zp (v:=zoN F d l) zs2 u rfl rfl rfl ⟨_,rfl,za (zn u),rfl,⟨_,J2.other (qW _ _ _) (hJ.lt (UW _)) hJ.hB.2⟩,zff (zd gr gp) (qW _ _ _) (UW _)⟩
theorem zw1(n:Nat):∀d,d+n=21->zjo B jb rk rn vb fb F d:=by
 induction n with
 | zero=>exact fun d h=>zkb (by omega) fun a=>by omega
 | succ n ih=>exact fun d h=>zkb (by omega) fun _=>ih (d+1) (by omega)
end
section
variable{w:Wd}{F:FinV}{B:Nat}
theorem zoh(hB:B<=w.heap.size):Calls PG 80 #[zaq F] w fun e w'=>∃jb rk rn vb fb,e = .returned (At0 jb)/\JudV w' B jb rk rn vb fb F (fun _=>none)/\w.heap.size<=rn/\Bw w w':=by
 refine qA 18 [zaq F] (.s .p (.c .p (.c .p .p))) Tryz.func80 ?_;obtain⟨W1,t⟩:=nm (w.alloc (.cells (zx.enc F).toArray 52));have fb:W1.heap[w.heap.size]?=some (.cells (zx.enc F).toArray 52 (0,0)):=by rw[t];exact zt w _
 have b1:Bw w W1:=by rw[t];exact(zba w _)
 have n1:W1.heap.size=w.heap.size+1:=by rw[t];exact wz _ _
 refine⟨Nat×Nat×Nat,fun s=>⟨[(1,At0 w.heap.size),(3,At0 s.2.2)],[]⟩,fun s X=>MapF plV X s.1 (fun(_:PlK)=>none)/\X.heap[s.2.1]?=some (.cells [Value.map none,.map (some s.1)].toArray 235 (0,0))/\X.heap[s.2.2]?=some (.cells #[At0 s.2.1] 165 (0,0)) /\
  X.heap[w.heap.size]?=some (.cells (zx.enc F).toArray 52 (0,0))/\w.heap.size<s.1/\s.1<s.2.1/\s.2.1<s.2.2/\Bw w X,?_,?_⟩
 ·refine⟨Value.map (some W1.heap.size),W1.alloc (.map #[] 0),by rw[t];rfl,?_⟩;have m0:MapF (key:=plV) (W1.alloc (.map #[] 0)) W1.heap.size (fun(_:PlK)=>none):=MapF.new;have b2:Bw W1 (W1.alloc (.map #[] 0)):=zba W1 _;have n2:(W1.alloc (.map #[] 0)).heap.size=W1.heap.size+1:=wz _ _;obtain⟨W2,e2⟩:=nm (W1.alloc (.map #[] 0));rw[<- e2] at m0 b2 n2 ⊢;refine⟨[Value.map none,.map (some W1.heap.size)],rfl,?_⟩;have u:=zt W2 (.cells #[Value.map none,.map (some W1.heap.size)] 235);have b3:Bw W2 (W2.alloc (.cells #[Value.map none,.map (some W1.heap.size)] 235)):=zba W2 _;have n3:(W2.alloc (.cells #[Value.map none,.map (some W1.heap.size)] 235)).heap.size=W2.heap.size+1:=wz _ _;have d:=zt (W2.alloc (.cells #[Value.map none,.map (some W1.heap.size)] 235)) (.cells #[.pointer none] 165);refine zp (v:=At0 W2.heap.size) zyD d rfl rfl rfl ?_;have j:=zk ((Gb (W2.alloc (.cells #[Value.map none,.map (some W1.heap.size)] 235)).heap.size _).alloc (UW _) (.cells #[.pointer none] 165)) (UW _) (At0 W2.heap.size).cells;have l:=zst b3 j;have m:=zst b2 l;exact⟨(W1.heap.size,W2.heap.size,(W2.alloc (.cells #[Value.map none,.map (some W1.heap.size)] 235)).heap.size),(cvE rfl rfl),m0.below l,zb j u,zn d,zb m fb,by dsimp only;omega,by dsimp only;omega,by dsimp only;omega,(zst b1 m)⟩
 rintro⟨rn,jb,vb⟩ W4 ⟨m4,u,d,fb,l1,l2,l3,j⟩;dsimp only at m4 u d l1 l2 l3;have hv:=hlt d;refine⟨Nat,fun s=>⟨[(3,At0 vb)],[]⟩,fun s X=>JudV X B jb s rn vb w.heap.size F (fun _=>none)/\Bw w X,?_,?_⟩
 ·refine⟨_,zc (za d) (i:=0) rfl,Value.map (some W4.heap.size),W4.alloc (.map #[] 0),by rfl,?_⟩;have k0:MapF (key:=u8) (W4.alloc (.map #[] 0)) W4.heap.size (fun(_:UInt8)=>none):=MapF.new;have b5:Bw W4 (W4.alloc (.map #[] 0)):=zba W4 _;obtain⟨o1,r1,k1⟩:=zam zhX Tryz.underlying233 k0 0 (.func (.func 147) #[] #[]);obtain⟨z,r2,k2⟩:=zam zhX Tryz.underlying233 k1 1 (.func (.func 148) #[] #[At0 w.heap.size]);obtain⟨x,r3,k3⟩:=zam zhX Tryz.underlying233 k2 2 (.func (.func 149) #[] #[At0 w.heap.size]);obtain⟨o4,r4,k4⟩:=zam zhX Tryz.underlying233 k3 3 (.func (.func 150) #[] #[At0 vb]);obtain⟨o5,r5,k5⟩:=zam zhX Tryz.underlying233 k4 4 (.func (.func 152) #[] #[At0 vb]);obtain⟨o6,r6,r⟩:=zam zhX Tryz.underlying233 k5 5 (.func (.func 153) #[] #[At0 vb]);refine⟨_,_,r1,_,_,r2,_,_,r3,_,_,r4,_,_,r5,_,_,r6,?_⟩;have b:=qC (qC (qC (qC (qC (qC b5 (UW _) o1) (UW _) z) (UW _) x) (UW _) o4) (UW _) o5) (UW _) o6;have r:MapF u8 (((((((W4.alloc (.map #[] 0)).putObj W4.heap.size o1).putObj W4.heap.size z).putObj W4.heap.size x).putObj W4.heap.size o4).putObj W4.heap.size o5).putObj W4.heap.size o6) W4.heap.size (ze8 vb w.heap.size):=r;have g:=zb b u;refine zm zyA g (o:=0+0) (v := .map (some W4.heap.size)) rfl rfl (by show 0<2;decide) rfl fun X fX n sX=>?_;clear r1 r2 r3 r4 r5 r6 k0 k1 k2 k3 k4 k5 b5;generalize (((((((W4.alloc (.map #[] 0)).putObj W4.heap.size o1).putObj W4.heap.size z).putObj W4.heap.size x).putObj W4.heap.size o4).putObj W4.heap.size o5).putObj W4.heap.size o6)=W5 at r b g n sX;have ab:=zb b d;have y:=zb b fb;have m5:=m4.below b;have s5:=b.size;have h:∀{k:Nat} {f:Obj},k≠jb->W5.heap[k]?=some f->X.heap[k]?=some f:=fun{k f} hk a=>(n.block k (hlt a) fun e=>hk (by cases e;rfl)).trans a;have same:∀{k:Nat} {f:Obj},k≠jb->W5.heap[k]?=some f->X.heap[k]?=W5.heap[k]?:=fun{k f} hk a=>n.block k (hlt a) fun e=>hk (by cases e;rfl);obtain⟨_,_,h1,_⟩:=id r;obtain⟨_,_,h2,_⟩:=id m5;have aa:=zst j b;exact⟨W4.heap.size,(cvE rfl rfl),⟨fX,h (by omega) ab,h (by omega) y,r.same (same (by omega) h1),m5.same (same (by omega) h2),.nil,by omega,by omega,by have:=n.size;omega⟩,aa.trans (zl n (by have:=j.size;omega) (by omega))⟩
 rintro rk X ⟨hJ,hb⟩;exact⟨_,zc (za hJ.v) (i:=0) rfl,jb,rk,rn,vb,w.heap.size,rfl,hJ,by omega,hb⟩
end
section
variable{w:Wd}{F:FinV}{c:Cnd}{q:OA}{cap:Nat}
theorem zf9(hk:KidsG w.heap.size w q c.kids):CB 42 #[zbK c q cap,zaq F] w (.bool (qP F 20 c)):=by
 refine zD 9 [zbK c q cap,zaq F] Tryz.func42 ?_;obtain⟨W1,b⟩:=nm (((w.alloc (.cells (zbK c q cap).cells 27)).alloc (.cells (zaq F).cells 52)).drew);have i:W1.heap[w.heap.size]?=some (.cells (zu c q cap).toArray 27 (0,0)):=by rw[b];exact qO _ (zt w _)
 have j:W1.heap[w.heap.size+1]?=some (.cells (zx.enc F).toArray 52 (0,0)):=by
  rw[b];have:=zt (w.alloc (.cells (zbK c q cap).cells 27)) (.cells (zaq F).cells 52);rw[wz] at this;exact this
 have h:Bw w W1:=by rw[b];exact(((zba w _)).alloc (by rw[wz];omega) _).drew
 refine DrawE.ord [3] [0,2,1,3,4] (by kernel_rfl) ?_;rw[<- b];refine⟨zx.enc F,zx.len F,by rw[wz];exact za j,by rw[wz];exact hlt j,?_⟩;refine⟨zu c q cap,rfl,za i,hlt i,cmo (zoh (F:=F) (B:=w.heap.size) h.size) ?_⟩;rintro e Y ⟨n,p,o,r,m,rfl,l,g,a⟩;refine⟨a,?_⟩;have f:=zst h a;refine cmo (zpG (d:=1) (by decide) l (hk.kept f) (zw1 19 2 rfl)) ?_;rintro e Z ⟨rfl,_,k⟩;exact⟨rfl,f.trans (zl k f.size (UL h.size g))⟩
end
def zll:List FinV->Bool
 | []=>true
 | a::r=>r.all (fun b=>ltF a b)&&zll r
theorem zfO:∀{l:List FinV},zll l=true->Inc l
 | [],_=>List.Pairwise.nil
 | a::r,h=>by
  unfold zll at h;rw[bAT,Qg] at h;exact List.pairwise_cons.2 ⟨h.1,zfO h.2⟩
theorem zl0{l t:List FinV}(h:(zll t&&(l.all (fun x=>decide (x∈t))&&t.all (fun x=>decide (x∈l))))=true):zbx l=t:=by
 rw[bAT,bAT,Qg,Qg] at h;exact zfd (zgk l) (zfO h.1) fun x=>by
  rw[zca];exact⟨fun a=>dT (h.2.1 x a),fun a=>dT (h.2.2 x a)⟩
def qj (a b:UInt8):FinV:=⟨a::0::0::0::0::0::0::0::b::(List.replicate 23 0++[1,1,0,0,0,0]),by simp⟩
end Go.Proofs.YtakcdebpklffiaaGreatDoor
namespace Go.Sei
def zaK (before:Nat->Nat):Nat->Nat->List Nat->List (List Nat)
 | 0,left,l=>if left=0 then [l] else []
 | n+1,left,l=>if left=0 then [l] else (els left).flatMap fun a=>if before a&&&left=0 then zaK before n (jU left (2^a)) (l++[a]) else []
def zbW (r:RelD):List (List Nat):=if zaU r then zaK (z6 r).to 64 (zal r.n) [] else[]
def zaS:List Nat->Nat->List Nat
 | [],_=>[]
 | n::ns,j=>j%n::zaS ns (j/n)
def qi:List Nat->Nat
 | []=>1
 | n::ns=>n*qi ns
def qt (sizes:List Nat):List (List Nat):=(List.range (qi sizes.reverse)).map fun j=>(zaS sizes.reverse j).reverse
theorem zfX:∀(rs:List Nat) (j:Nat),(zaS rs j).length=rs.length
 | [],_=>rfl
 | n::ns,j=>by
  show(zaS ns (j/n)).length+1=ns.length+1;rw[zfX ns]
theorem zkm:∀rs:List Nat,zaS rs 0=List.replicate rs.length 0
 | []=>rfl
 | n::ns=>by
  show 0%n::zaS ns (0/n)=0::List.replicate ns.length 0;rw[Nat.zero_mod,Nat.zero_div,zkm ns]
theorem zjU:∀{rs:List Nat},(∀n∈rs,n≠0)->0<qi rs
 | [],_=>Nat.one_pos
 | n::ns,h=>Nat.mul_pos (by have:=h n (by simp);omega) (zjU fun m a=>h m (by simp [a]))
theorem ze2:∀{rs:List Nat},0∈rs->qi rs=0
 | [],h=>by cases h
 | n::ns,h=>by
  show n*qi ns=0;rcases UA.1 h with h | h
  ·rw[<- h,UR]
  ·rw[ze2 h,Nat.mul_zero]
theorem zgO{n j:Nat}(hn:n≠0):(j%n=n-1->(j+1)%n=0/\(j+1)/n=j/n+1)/\(j%n≠n-1->(j+1)%n=j%n+1/\(j+1)/n=j/n):=by
 have c:=QV j n;have d:=Ge j (KG hn);obtain⟨q,b⟩:∃q,j/n=q:=⟨_,rfl⟩;obtain⟨m,a⟩:∃m,j%n=m:=⟨_,rfl⟩;rw[b,a] at c ⊢;rw[a] at d;refine⟨fun h=>?_,fun h=>?_⟩
 ·have e:j+1=n*(q+1):=by rw[Nat.mul_add];omega
  rw[e];exact⟨Nat.mul_mod_right _ _,Nat.mul_div_cancel_left _ (KG hn)⟩
 ·have e:j+1=n*q+(m+1):=by omega
  rw[e,Nat.mul_add_mod,Qz (by omega),Nat.mul_add_div (KG hn),Nat.div_eq_of_lt (by omega)];exact⟨rfl,rfl⟩
def zjs (rs:List Nat) (j t:Nat):Prop:=∃A ns k,rs=A++ns/\A.length=t/\zaS rs (j+1)=List.replicate t 0++zaS ns (k+1)/\(zaS rs j).drop t=zaS ns k/\qi A*(k+1)=j+1
theorem zc8:∀A B:List Nat,qi (A++B)=qi A*qi B
 | [],B=>(UY _).symm
 | n::A,B=>by
  show n*qi (A++B)=n*qi A*qi B;rw[zc8 A B,UC]
theorem zoC(rs:List Nat)(j:Nat):zjs rs j 0:=⟨[],rs,j,rfl,rfl,rfl,rfl,UY _⟩
theorem zoE{rs:List Nat}{j t:Nat}(hr:∀n∈rs,n≠0)(h:zjs rs j t){n d:Nat}(hn:rs[t]?=some n)(hd:(zaS rs j)[t]?=some d)(he:d=n-1):zjs rs j (t+1):=by
 obtain⟨A,a,k,b,i,r,f,p⟩:=h
 cases a with
 | nil =>
  rw[b,QG,JI (by omega)] at hn
  cases hn
 | cons m a =>
  have s:m=n:=by
   rw[b,Jm (by omega),i,UN] at hn;exact Uc hn
  subst s;have e:k%m=d:=by
   have:=Gi (fun l=>l[0]?) f;simp only[Kx,UK] at this;rw[hd] at this;exact(Uc this).symm
  have c:m≠0:=hr m (by rw[b];simp);obtain⟨g,o⟩:=(zgO c).1 (e.trans he);have q:k+1=m*(k/m+1):=by
   have:=QV (k+1) m;rw[g,o] at this;omega
  refine⟨A++[m],a,k/m,by rw[b];simp,by simp[i],?_,?_,?_⟩
  ·rw[r];show _++((k+1)%m::zaS a ((k+1)/m))=_;rw[g,o,List.replicate_succ',KN];rfl
  ·rw[<- Uh,f];rfl
  ·rw[<- p,zc8];show qi A*(m*1)*_=_;rw[UX,UC,<- q]
theorem zoD{rs:List Nat}{j t:Nat}(hr:∀n∈rs,n≠0)(h:zjs rs j t){n d:Nat}(hn:rs[t]?=some n)(hd:(zaS rs j)[t]?=some d)(he:d≠n-1):zaS rs (j+1)=List.replicate t 0++(d+1)::(zaS rs j).drop (t+1):=by
 obtain⟨A,c,k,e,i,p,f,r⟩:=h
 cases c with
 | nil =>
  rw[e,QG,JI (by omega)] at hn
  cases hn
 | cons m c =>
  have q:m=n:=by
   rw[e,Jm (by omega),i,UN] at hn;exact Uc hn
  subst q;have a:k%m=d:=by
   have:=Gi (fun l=>l[0]?) f;simp only[Kx,UK] at this;rw[hd] at this;exact(Uc this).symm
  have b:m≠0:=hr m (by rw[e];simp);obtain⟨g,o⟩:=(zgO b).2 (fun h=>he (a.symm.trans h));rw[p,<- Uh,f];show _++((k+1)%m::zaS c ((k+1)/m))=_;rw[g,o,a];rfl
theorem zrv{rs:List Nat}{j:Nat}(h:zjs rs j rs.length)(hj:j<qi rs):j+1=qi rs:=by
 obtain⟨A,c,k,a,d,l,f,g⟩:=h;have e:=Gi List.length a;rw[lap,d] at e;have:c=[]:=List.length_eq_zero_iff.1 (by omega);subst this;rw[QG] at a;rw[a] at hj ⊢;have i:qi A*(k+1)<=qi A:=by omega
 rcases Nat.eq_zero_or_pos (qi A) with b | b
 ·omega
 ·have:k+1<=1:=Nat.le_of_mul_le_mul_left (by omega:qi A*(k+1)<=qi A*1) b;have:k=0:=by omega
  subst this;omega
theorem zoF{rs:List Nat}{j t:Nat}(hr:∀n∈rs,n≠0)(h:zjs rs j t){n d:Nat}(hn:rs[t]?=some n)(hd:(zaS rs j)[t]?=some d)(he:d≠n-1)(hj:j<qi rs):j+1<qi rs:=by
 obtain⟨A,a,k,b,r,y,o,v⟩:=h
 cases a with
 | nil =>
  rw[b,QG,JI (by omega)] at hn
  cases hn
 | cons m a =>
  have f:m=n:=by
   rw[b,Jm (by omega),r,UN] at hn;exact Uc hn
  subst f;have e:k%m=d:=by
   have:=Gi (fun l=>l[0]?) o;simp only[Kx,UK] at this;rw[hd] at this;exact(Uc this).symm
  have c:m≠0:=hr m (by rw[b];simp);obtain⟨q,w⟩:=(zgO c).2 (fun h=>he (e.symm.trans h));apply Jo;intro x;have i:qi rs=qi A*(m*qi a):=by rw[b,zc8];rfl
  have u:0<qi A:=by
   apply KG;intro p;rw[i,p,UR] at hj;omega
  have s:qi A*(k+1)=qi A*(m*qi a):=by omega
  have g:=Nat.eq_of_mul_eq_mul_left u s;rw[g,Nat.mul_mod_right] at q;omega
theorem zjR{L:List Nat}{t d:Nat}(h:L[t]?=some d):(List.replicate t 0++L.drop t).reverse=(L.drop (t+1)).reverse++d::(List.replicate t 0).reverse:=by
 obtain⟨a,rfl⟩:=Jr.1 h;rw[<- JD a,Kn,KV,KN];rfl
theorem zwI{L:List Nat}{t d:Nat}(h:L[t]?=some d){i:Nat}(hi:i+t+1=L.length):(List.replicate t 0++L.drop t).reverse[i]?=some d:=by
 rw[zjR h,Jm (by simp;omega)];have:i-(L.drop (t+1)).reverse.length=0:=by simp;omega
 rw[this];rfl
theorem zpc{L:List Nat}{t d:Nat}(h:L[t]?=some d){i:Nat}(hi:i+t+1=L.length)(v:Nat):((List.replicate t 0++L.drop t).reverse).set i v=(List.replicate t 0++v::L.drop (t+1)).reverse:=by
 rw[zjR h,JN _ _ (by simp;omega)];have:i-(L.drop (t+1)).reverse.length=0:=by simp;omega
 rw[this,Kn,KV,KN];rfl
theorem zsp{L:List Nat}{t:Nat}:(List.replicate t 0++0::L.drop (t+1)).reverse=(List.replicate (t+1) 0++L.drop (t+1)).reverse:=by
 rw[List.replicate_succ',KN];rfl
structure ExD where
 ev:List Ev
 po:RelD
 rf:RelD
 co:RelD
 dt:RelD
 ct:RelD
 rm:RelD
 regs:Nat->UInt8
 mem:Nat->UInt8
structure MixD where
 base:ExD
 rs:List (Nat×List Nat)
 wr:List (List Nat)
def zdN (n:Nat):RelD:=⟨n,fun _=>0⟩
def ex0 (n:Nat):ExD:=⟨[],zdN n,zdN n,zdN n,zdN n,zdN n,zdN n,fun _=>0,fun _=>0⟩
def zgu (b:Nat):List (Nat×Nat)->(Nat->Nat)->Nat->Nat
 | [],f=>f
 | p::ps,f=>zgu b ps (upd f (b+p.1) (f (b+p.1)|||2^(b+p.2)))
def zn6 (b:Nat) (ps:List (Nat×Nat)) (r:RelD):RelD:=⟨r.n,zgu b ps r.to⟩
def ziq (a:Int):Nat->List Ev->Nat->Nat
 | _,[],s=>s
 | j,e::es,s=>ziq a (j+1) es (if e.th=a then s|||2^j else s)
def zb3 (ev:List Ev) (i:Nat):Nat:=match ev[i]? with
 | none=>0
 | some e=>if e.th = -1 then 0 else ziq e.th (i+1) (ev.drop (i+1)) 0
def poR (ev:List Ev):RelD:=⟨ev.length,zb3 ev⟩
def qG:Nat->List UInt8->List Ev
 | _,[]=>[]
 | l,v::vs=>⟨-1,2,UInt8.ofNat l,v,0,0,0⟩::qG (l+1) vs
def jH (k:Nat) (l:List Ev):List Ev:=l.map fun e=>{ e with th:=k }
def zbY (x:ExD) (k:Nat) (P:PathD):ExD :=
 { x with ev:=x.ev++jH k P.ev,dt:=zn6 x.ev.length P.data x.dt,ct:=zn6 x.ev.length P.ctrl x.ct,rm:=zn6 x.ev.length P.rmw x.rm,regs:=fun i=>if i/8=k then P.regs (i%8) else x.regs i }
def asR:Nat->List PathD->ExD->ExD
 | _,[],x=>x
 | k,P::Ps,x=>asR (k+1) Ps (zbY x k P)
def zb1 (locs:Nat) (Ps:List PathD):Nat:=Ps.foldl (fun n P=>n+P.ev.length) locs
def zjv:Nat->List Ev->List (List Nat)->List (List Nat)
 | _,[],W=>W
 | i,e::es,W=>zjv (i+1) es (if e.k=2 then W.set e.l.toNat (W.getD e.l.toNat []++[i]) else W)
def zcl (all:List Ev) (W:List (List Nat)):Nat->List Ev->List (Nat×List Nat)
 | _,[]=>[]
 | i,e::es=>if e.k=1 then (i,(W.getD e.l.toNat []).filter fun w=>decide ((all.getD w ev0).v=e.v))::zcl all W (i+1) es else zcl all W (i+1) es
def zak (init:List UInt8) (Ps:List PathD):ExD :=
 let x:=asR 0 Ps { ex0 (zb1 init.length Ps) with ev:=qG 0 init }
 { x with po:=poR x.ev }
def zat (x:ExD) (locs:Nat):MixD :=
 let W:=zjv 0 x.ev (List.replicate locs [])
 ⟨x,zcl x.ev W 0 x.ev,W⟩
def ziI (init:List UInt8) (Ps:List PathD):Option MixD:=if zb1 init.length Ps<=48 then some (zat (zak init Ps) init.length) else none
def zf2 (lim:Nat):List (List Nat)->Nat->Option Nat
 | [],n=>some n
 | f::fs,n=>if f=[] then none else zf2 lim fs (min (n*f.length) lim)
def zht (lim len:Nat):Nat->Nat->Nat->Nat
 | 0,_,n=>n
 | m+1,k,n=>if k<len then zht lim len m (k+1) (min (n*k) lim) else n
def zhs (lim:Nat):List (List Nat)->Nat->Nat
 | [],n=>n
 | l::ls,n=>zhs lim ls (zht lim l.length l.length 2 n)
def jx (m:MixD) (lim:Nat):Nat:=match zf2 lim (m.rs.map (·.2)) 1 with
 | none=>0
 | some n=>zhs lim m.wr n
def zO (w:List Nat):List (List Nat) :=
 let l:=zbW (zjb w.length 1 (jU (zal w.length) 1))
 if l.length<=10000 then l.map fun o=>o.map fun k=>w.getD k 0 else[]
def zeT:List Nat->(Nat->Nat)->Nat->(Nat->Nat)
 | [],f,_=>f
 | a::l,f,b=>zeT l (upd f a b) (b|||2^a)
def zaj (l:List Nat) (r:RelD):RelD:=⟨r.n,zeT l.reverse r.to 0⟩
def rfF:List (Nat×List Nat)->List Nat->(Nat->Nat)->Nat->Nat
 | [],_,f=>f
 | (r,s)::rs,ds,f=>rfF rs ds.tail (upd f (s.getD (ds.headD 0) 0) (f (s.getD (ds.headD 0) 0)|||2^r))
def coG (ev:List Ev):Nat->List (List (List Nat))->List Nat->RelD×(Nat->UInt8)->RelD×(Nat->UInt8)
 | _,[],_,p=>p
 | l,R::Rs,ds,p=>coG ev (l+1) Rs ds.tail (zaj (R.getD (ds.headD 0) []) p.1,upd p.2 l (ev.getD ((R.getD (ds.headD 0) []).getLastD 0) ev0).v)
def zG (m:MixD) (ds:List Nat):ExD :=
 let c:=coG m.base.ev 0 (m.wr.map zO) (ds.drop m.rs.length) (m.base.co,m.base.mem)
 { m.base with rf:=⟨m.base.rf.n,rfF m.rs ds m.base.rf.to⟩,co:=c.1,mem:=c.2 }
def zM (m:MixD):List Nat:=m.rs.map (fun r=>r.2.length)++m.wr.map fun w=>(zO w).length
def zem (m:MixD):List ExD:=(qt (zM m)).map (zG m)
def js (Ts:List (List PathD)):List Nat->List PathD
 | []=>[]
 | d::ds=>match Ts with
  | []=>[]
  | T::Ts=>(match T[d]? with | some P=>[P] | none=>[])++js Ts ds
theorem zpY:∀(rs:List Nat) (j:Nat),(∀n∈rs,n≠0)->∀(i n d:Nat),rs[i]?=some n->(zaS rs j)[i]?=some d->d<n
 | [],_,_,_,_,_,h,_=>by simp at h
 | m::rs,j,h0,0,n,d,h,a=>by
  have h:m=n:=by simpa using h
  have a:j%m=d:=by simpa [zaS] using a
  subst h;subst a;exact Ge _ (KG (h0 m (by simp)))
 | m::rs,j,h0,i+1,n,d,h,a=>zpY rs (j/m) (fun n b=>h0 n (by simp [b])) i n d (by simpa using h) (by simpa [zaS] using a)
theorem za6{sizes ds:List Nat}(h:ds∈qt sizes):ds.length=sizes.length/\∀(i n d:Nat),sizes[i]?=some n->ds[i]?=some d->d<n:=by
 unfold qt at h;obtain⟨j,b,rfl⟩:=UI.1 h;have b:=Ul.1 b;have m:∀n∈sizes.reverse,n≠0:=fun n a e=>by
  subst e;rw[ze2 a] at b;omega
 have f:(zaS sizes.reverse j).length=sizes.length:=by rw[zfX,Kk]
 refine⟨by rw[Kk,f],fun i n d a o=>?_⟩;have k:i<sizes.length:=(Jr.1 a).1;have c:=JJ (l:=sizes.reverse) (i:=i) (by simpa using k);rw[Ka,a] at c;have g:=JJ (l:=zaS sizes.reverse j) (i:=i) (by omega);rw[o,f] at g;rw[Kk] at c;exact zpY _ _ m _ n d c.symm g.symm
theorem zmb:∀(rs:List (Nat×List Nat)) (r:Nat) (s:List Nat) (ds:List Nat) (f:Nat->Nat),rfF (rs++[(r,s)]) ds f=upd (rfF rs ds f) (s.getD (ds.getD rs.length 0) 0) (rfF rs ds f (s.getD (ds.getD rs.length 0) 0)|||2^r)
 | [],r,s,ds,f=>by
  have:ds.getD 0 0=ds.headD 0:=by cases ds <;> rfl
  show upd f (s.getD (ds.headD 0) 0) _=_;rw[<- this];rfl
 | (r',s')::rs,r,s,ds,f=>by
  have e:ds.getD (rs.length+1) 0=ds.tail.getD rs.length 0:=by
   cases ds with
   | nil=>simp
   | cons a ds=>simp
  show rfF (rs++[(r,s)]) ds.tail _=_;rw[zmb rs r s ds.tail];show _=upd (rfF rs ds.tail _) (s.getD (ds.getD (rs.length+1) 0) 0) (rfF rs ds.tail _ (s.getD (ds.getD (rs.length+1) 0) 0)|||2^r);rw[e]
abbrev zcG (ev:List Ev) (rk:List Nat):UInt8:=(ev.getD (rk.getLastD 0) ev0).v
theorem znh(ev:List Ev):∀(Rs:List (List (List Nat))) (R:List (List Nat)) (l:Nat) (ds:List Nat) (p:RelD×(Nat->UInt8)),
  coG ev l (Rs++[R]) ds p=(zaj (R.getD (ds.getD Rs.length 0) []) (coG ev l Rs ds p).1,upd (coG ev l Rs ds p).2 (l+Rs.length) (zcG ev (R.getD (ds.getD Rs.length 0) [])))
 | [],R,l,ds,p=>by
  have:ds.getD 0 0=ds.headD 0:=by cases ds <;> rfl
  show(zaj (R.getD (ds.headD 0) []) p.1,upd p.2 l _)=_;rw[<- this];rfl
 | R'::Rs,R,l,ds,p=>by
  have e:ds.getD (Rs.length+1) 0=ds.tail.getD Rs.length 0:=by
   cases ds with
   | nil=>simp
   | cons a ds=>simp
  show coG ev (l+1) (Rs++[R]) ds.tail _=_;rw[znh ev Rs R (l+1) ds.tail];show _=(zaj (R.getD (ds.getD (Rs.length+1) 0) []) _,upd _ (l+(Rs.length+1)) (zcG ev (R.getD (ds.getD (Rs.length+1) 0) [])));rw[e,show l+1+Rs.length=l+(Rs.length+1) by omega];rfl
structure MixB (m:MixD):Prop where
 ev:m.base.ev.length<=48
 rl:m.rs.length<=48
 wl:m.wr.length<=6
 rf:∀i,i<48->m.base.rf.to i<2^64
 co:∀i,i<48->m.base.co.to i<2^64
 rs:∀r∈m.rs,r.1<48/\r.2.length<=1000/\∀s∈r.2,s<48
 wr:∀w∈m.wr,w.length<=48/\(zO w).length<=10000/\∀k∈zO w,k≠[]/\k.length<=48/\∀a∈k,a<m.base.ev.length
theorem zhR(m:MixD)(ds:List Nat):(zG m ds).ev=m.base.ev:=rfl
def jy (a b:RelD):Bool:=decide (a.n=b.n)&&(List.range 48).all fun i=>decide (a.to i=b.to i)
def qz (ev:List Ev):Nat:=(ev.takeWhile fun e=>decide (e.th = -1)).length
def zct (locs:Nat):Nat->List Ev->Int->Nat->Bool
 | _,[],_,_=>true
 | i,e::es,t,n =>
  if i<locs then(if e=⟨-1,2,UInt8.ofNat i,e.v,0,0,0⟩ then zct locs (i+1) es t n else false)
  else if e.th<t\/4<=e.th then false
  else
   let t':=if t<e.th then e.th else t
   let n':=if t<e.th then 0 else n
   if e.p.toNat=n' then
    (if e.k=1\/e.k=2 then(if e.l.toNat<locs then zct locs (i+1) es t' (n'+1) else false) else if e.k=3 then(if e.l=0/\e.v=0 then zct locs (i+1) es t' (n'+1) else false) else false)
   else false
def jE (ev:List Ev) (locs:Nat):Bool:=zct locs 0 ev 0 0
def evA (x:ExD) (i:Nat):Ev:=x.ev.getD i ev0
def zcC (x:ExD) (s:Nat) (e:Ev):Bool :=
 if e.k=1 then(if s=0 then false else
  (if s=2^ctz s then decide ((evA x (ctz s)).k=2)&&(decide ((evA x (ctz s)).l=e.l)&&decide ((evA x (ctz s)).v=e.v)) else false))
 else decide (s=0)
def za2 (x:ExD):Bool:=(List.range x.ev.length).all fun i=>zcC x ((z6 x.rf).to i) (evA x i)
def jv (key:Nat->Nat):List Nat->Nat->List Nat
 | [],x=>[x]
 | y::r,x=>if key y<key x then y::jv key r x else x::y::r
def zdT (key:Nat->Nat) (l:List Nat):List Nat:=(l.foldl (fun acc x=>jv key acc x) []).reverse
def zcp (s:Nat):Nat:=(els s).length
def qa (x:ExD) (l:Nat):List Nat:=(List.range x.ev.length).filter fun i=>decide ((evA x i).k=2)&&decide ((evA x i).l.toNat=l)
def zR (x:ExD) (l:Nat):List Nat:=zdT (fun i=>zcp (x.co.to i)) (qa x l)
def zf1 (x:ExD):Nat->Nat->RelD×(Nat->UInt8)->Option (RelD×(Nat->UInt8))
 | 0,_,p=>some p
 | n+1,l,p=>if (zR x l).headD 48=l then zf1 x n (l+1) (zaj (zR x l) p.1,upd p.2 l (zcG x.ev (zR x l))) else none
def zai (x:ExD) (locs:Nat):Bool:=match zf1 x locs 0 (⟨x.ev.length,fun _=>0⟩,fun _=>0) with
 | none=>false
 | some p=>jy p.1 x.co&&(List.range 6).all fun l=>decide (p.2 l=x.mem l)
def zbm (x:ExD):Nat:=(List.range x.ev.length).foldl (fun s i=>if(evA x i).k=2 then s|||2^i else s) 0
def zbS (x:ExD) (W:Nat):Nat->List Ev->Nat->Bool
 | _,[],_=>true
 | i,e::es,h =>
  let d:=x.dt.to i
  let c:=x.ct.to i
  let r:=x.rm.to i
  if d|||c|||r=0 then zbS x W (i+1) es h
  else if e.k=1/\jU (d|||r) W=0/\jU (d|||c|||r) (x.po.to i)=0 then
   (if r=0 then zbS x W (i+1) es h else if r=2^ctz r/\h.testBit (ctz r)=false/\(evA x (ctz r)).l=e.l then zbS x W (i+1) es (h|||r) else false)
  else false
def zaY (x:ExD):Bool:=zbS x (zbm x) 0 x.ev 0
def zbg (x:ExD):Bool:=[x.po,x.rf,x.co,x.dt,x.ct,x.rm].all fun r=>decide (r.n=x.ev.length)&&okR r
def j0 (x:ExD):Bool :=
 decide (x.ev.length<=48)&&(decide (1<=qz x.ev)&&(decide (qz x.ev<=6)&&(jE x.ev (qz x.ev)&&(zbg x&&(jy x.po (poR x.ev)&&(za2 x&&(zai x (qz x.ev)&&zaY x)))))))
def isR (x:ExD) (i:Nat):Bool:=decide ((evA x i).k=1)
def isW (x:ExD) (i:Nat):Bool:=decide ((evA x i).k=2)
def zbZ (x:ExD) (i:Nat):Bool:=isR x i||isW x i
def zh (r:RelD) (a b:Nat):Bool:=(r.to a).testBit b
def zgp (n:Nat) (p:Nat->Bool):Nat:=(List.range n).foldl (fun s b=>if p b=true then s|||2^b else s) 0
def zcm (n:Nat) (p:Nat->Nat->Bool):RelD:=jT n fun a=>zgp n (p a)
def qy (r:RelD) (l:List RelD):RelD:=l.foldl (fun r o=>(zav r o).1) r
def frM (x:ExD):RelD:=(jq (z6 x.rf) x.co).1
def zby (x:ExD) (a b:Nat):Bool:=zbZ x a&&(zbZ x b&&decide ((evA x a).l=(evA x b).l))
def zdE (x:ExD) (r:RelD):RelD:=zcm r.n.toNat fun a b=>zh r a b && !decide ((evA x a).th=(evA x b).th)
def zbN (x:ExD) (md:UInt8):Nat:=((List.range x.ev.length).filter fun i=>decide ((evA x i).k=3)&&decide ((evA x i).m=md)).foldl (fun s i=>s|||2^i) 0
def zV (x:ExD) (md:UInt8):RelD:=(jq (jq x.po (idR x.ev.length (zbN x md))).1 x.po).1
def z8 (x:ExD) (a:Nat) (md:UInt8):Bool:=decide ((evA x a).m=md)||decide ((evA x a).m=3)
def zaE (x:ExD) (f:RelD) (a b:Nat):Bool:=zh f a b||(z8 x a 3||z8 x b 3)
def zdd (m:Nat) (x:ExD) (f l s:RelD) (a b:Nat):Bool :=
 match m with
 | 1=>false
 | 2=>true
 | 3=>isR x a||(isW x b||zaE x f a b)
 | 4=>isR x a||(zaE x f a b||(isW x b&&(zby x a b||zh s a b)))
 | 5=>(isR x a&&(z8 x a 1||zh l a b))||((isW x b&&(z8 x b 2||zh s a b))||zh f a b)
 | 6=>zh x.dt a b||((zh x.ct a b&&isW x b)||(zh x.rm a b||(zh f a b||((zh l a b&&(isR x a&&isR x b))||(zh s a b&&(isW x a&&isW x b))))))
 | _=>false
def zaz (m:Nat) (x:ExD):RelD:=zcm x.ev.length fun a b=>zh x.po a b&&(zbZ x a&&(zbZ x b&&zdd m x (zV x 3) (zV x 4) (zV x 5) a b))
def zag (x:ExD):RelD:=zcm x.ev.length fun a b=>zh x.po a b&&zby x a b
def jl (m:Nat) (x:ExD):Nat :=
 if zaU (qy (zag x) [x.rf,x.co,frM x])=true then
  (if zbG (zaZ x.rm (jq (frM x) x.co).1).1=true then
   (if m=1 then 0 else if zaU (qy (zaz m x) [if m=2 then x.rf else zdE x x.rf,x.co,frM x])=true then 0 else 3) else 2)
 else 1
def zbb (m:Nat):Bool:=decide (1<=m)&&decide (m<=6)
def zaA (m:Nat) (x:ExD):Bool:=zbb m&&(j0 x&&decide (jl m x=0))
end Go.Sei
namespace Go.Proofs.YtakcdebpklffiaaGreatDoor
open Go.Vc Go.RowKit Go.Sei
def zgK (r m:Nat->UInt8):List Value:=seg 32 (fun i=>u8 (r i))++seg 6 (fun i=>u8 (m i))
theorem zth(r m:Nat->UInt8):(zgK r m).length=38:=by unfold zgK;rw[lap,zB,zB]
def zw6 (r m:Nat->UInt8):FinV:=⟨(List.range 32).map r++(List.range 6).map m,by simp⟩
theorem zi2(r m:Nat->UInt8):zx.enc (zw6 r m)=zgK r m:=by
 show((List.range 32).map r++(List.range 6).map m).map u8=_;unfold zgK seg;rw[QM,UF,UF];rfl
theorem zki(f:FinV):zw6 (fun i=>f.l.getD i 0) (fun i=>f.l.getD (32+i) 0)=f:=by
 apply FinV.ext';show(List.range 32).map _++(List.range 6).map _=f.l;have b:=f.len;apply KO;intro i;by_cases a:i<32
 ·rw[Jq (by simpa using a),KT,Ki a,gE (by omega),Ub,gDe,gE (by omega)];rfl
 ·rw[Jm (by simpa using a),QJ,KU,KT];by_cases c:i<38
  ·rw[Ki (by omega),Ub,gDe,show 32+(i-32)=i by omega,gE (by omega)];rfl
  ·rw[JI (by rw[KU];omega),JI (by omega)];rfl
theorem zic{m n:Nat}{f:Nat->UInt8}{i j:Nat}(hi:i<m)(hj:j<n):qr (qr (seg (m*n) (fun i=>u8 (f i))) (i*n) n) (j*1) 1=[u8 (f (i*n+j))]:=by
 have hlt:i*n+j<m*n:=by
  have:(i+1)*n<=m*n:=Kd n hi;rw[UP] at this;omega
 apply KO;intro k;unfold qr;rw[UX]
 cases k with
 | zero =>
  rw[List.getElem?_take_of_lt (by decide),Kx,UK,List.getElem?_take_of_lt hj,Kx,zcR _ hlt];rfl
 | succ k =>
  rw[JI (by rw[Qr];omega),JI (by simp)]
theorem zwg:∃G,TyEq PG 52 true 38 4 G/\∀r m:Nat->UInt8,G (zgK r m):=by
 have g:TyEq PG 48 true 8 2 _ := .array (m:=8) (by decide) Tryz.underlying48 (fun w=>Tryz.isAgg48 w) (jc (by kernel_rfl) (by kernel_rfl)).1 (by kernel_rfl) tU8;have b:TyEq PG 49 true 32 3 _ := .array (m:=4) (by decide) Tryz.underlying49 (fun w=>Tryz.isAgg49 w) (jc (by kernel_rfl) (by kernel_rfl)).1 (by kernel_rfl) g;have k:TyEq PG 50 true 6 2 _ := .array (m:=6) (by decide) Tryz.underlying50 (fun w=>Tryz.isAgg50 w) (jc (by kernel_rfl) (by kernel_rfl)).1 (by kernel_rfl) tU8;refine⟨_,.struct (uf Tryz.underlying52).1 (by kernel_rfl) (fun w=>Tryz.isAgg52 w) (jc (by kernel_rfl) (by kernel_rfl)).1 (by kernel_rfl)
  (by rw[(uf Tryz.underlying52).2];exact .cons (by decide) rfl b (.cons (by decide) rfl (k.up 1) .nil)),fun r m=>?_⟩
 have d:qr (zgK r m) 0 32=seg (4*8) fun i=>u8 (r i):=by
  unfold zgK qr;rw[Uj,Jg (by rw[zB];decide),JE (by rw[zB];decide)]
 have l:qr (zgK r m) 32 6=seg (1*6) fun i=>u8 (m i):=by
  unfold zgK qr;rw[Je (by rw[zB];decide),JA (by rw[zB];decide),QQ,JE (by rw[zB];decide)]
 refine⟨?_,?_,trivial⟩
 ·show ∀i,i<4->∀j,j<8->zxG .u8 (qr (qr (qr (zgK r m) 0 32) (i*8) 8) (j*1) 1);intro i c j a;rw[d,zic c a];exact⟨_,rfl⟩
 ·show ∀j,j<6->zxG .u8 (qr (qr (zgK r m) 32 6) (j*1) 1);intro j a;rw[l];have h:=zic (m:=1) (n:=6) (f:=m) (i:=0) (j:=j) (by decide) a;have e:qr (seg (1*6) fun i=>u8 (m i)) (0*6) 6=seg (1*6) fun i=>u8 (m i):=by
   unfold qr;rw[UR,Uj,JE (by rw[zB];decide)]
  rw[e] at h;rw[h];exact⟨_,rfl⟩
theorem zus{a b:UInt8}(h:u8 a=u8 b):a=b:=by
 unfold u8 at h;injection h with _ h;exact Ud.1 (by omega)
theorem zmZ{a b:FinV}:zx.enc a=zx.enc b↔a=b:=by
 constructor
 ·intro h;apply FinV.ext';have h:a.l.map u8=b.l.map u8:=h;apply List.ext_getElem (by rw[a.len,b.len]);intro i d e;have c:(a.l.map u8)[i]?=(b.l.map u8)[i]?:=by rw[h]
  rw[KT,KT,gE d,gE e] at c;exact zus (Uc c)
 ·rintro rfl;rfl
theorem zmY(u v:Operand)(x y:FinV)(w:Wd):(do eqGuard .eql 52 u v (.agg (zx.enc x).toArray) (.agg (zx.enc y).toArray);binOp .eql 52 (.agg (zx.enc x).toArray) (.agg (zx.enc y).toArray)).run PG w = .ok (.bool (decide (x=y))) w:=by
 obtain⟨G,a,b⟩:=zwg;have g:∀z:FinV,G (zx.enc z):=fun z=>by rw[<- zki z,zi2];exact b _ _
 have:=zlq a 9996 rfl (by kernel_rfl) (zx.len x) (zx.len y) (g x) (g y) u v w;rw[this,zdi zmZ]
theorem zmy(u v:Operand)(x y:FinV)(w:Wd):(do eqGuard .neq 52 u v (.agg (zx.enc x).toArray) (.agg (zx.enc y).toArray);binOp .neq 52 (.agg (zx.enc x).toArray) (.agg (zx.enc y).toArray)).run PG w = .ok (.bool (!decide (x=y))) w:=by
 obtain⟨G,a,b⟩:=zwg;have g:∀z:FinV,G (zx.enc z):=fun z=>by rw[<- zki z,zi2];exact b _ _
 have:=zsK a 9996 rfl (by kernel_rfl) (zx.len x) (zx.len y) (g x) (g y) u v w;rw[this,zdi zmZ]
def stV (l v m:UInt8):InsD:=⟨2,0,l,false,v,false,0,0,m,0⟩
def ldV (d l m:UInt8):InsD:=⟨1,d,l,false,0,false,0,0,m,0⟩
def zgW:Prg:=⟨[115,98],[[120],[121]],[0,0],[[stV 0 1 0,ldV 0 1 0],[stV 1 1 0,ldV 0 0 0]],1,.mk 0 0 0 0 []⟩
def zhq (x:ExD):FinV:=zw6 x.regs x.mem
def byL (m:Nat) (l:List ExD):List FinV:=(l.filter (zaA m)).map zhq
def scL:List FinV:=[qj 0 1,qj 1 0,qj 1 1]
def zcQ:List FinV:=[qj 0 0,qj 0 1,qj 1 0,qj 1 1]
def zwn (l t:List FinV):Bool:=zll t&&(l.all (fun x=>decide (x∈t))&&t.all (fun x=>decide (x∈l)))
abbrev zde (x:InsD):Value := .agg (zU.enc x).toArray
section
variable{R:RunD}{b:Nat}{w:Wd}
theorem zqD{x:InsD}{v:UInt8}(f:jJ w b R)(hm:R.many<24)(hd:x.dst.toNat<8):Calls PG 319 #[AtR b,zde x,u8 v] w fun e w' =>
  e = .returned (.tuple #[])/\jJ w' b (zsU R x v)/\w.grownBy w' (some b):=by
 refine zD 21 [AtR b,zde x,u8 v] Tryz.func319 ?_;have a:=zt w (.cells (zU.enc x).toArray 68);have j:Bw w (w.alloc (.cells (zU.enc x).toArray 68)):=zba w _;have p:=zb j f;have c:w.heap.size≠b:=fun e=>by have:=hlt f;omega
 refine⟨_,zc (za a) (i:=2) rfl,_,zc (za a) (i:=8) rfl,cmo (zgN (k:=1) (l:=x.loc) (v:=v) (m:=x.mode) (d:=0) p hm) ?_⟩;rintro e Y ⟨rfl,r,h,u⟩;have g:=(h.block w.heap.size (hlt a) (by simpa using c)).trans a;refine DrawE.ord [6] [0,1,2,3,4,5,6] (by kernel_rfl) ⟨_,zc (za (hdr g)) (i:=1) rfl,by omega,_,zhx (e:=R.many) (by omega),cmo (zo4 (d:=x.dst) (v:=v) (s:=2^R.many) (hdr r) hd) ?_⟩;rintro e Z ⟨rfl,n,o,t⟩;have q:Y.grownBy Y.drew (some b):=⟨rfl,rfl,rfl,UW _,fun _ _ _=>rfl⟩;exact⟨rfl,n,zd (zi j) (zd h (zd q o))⟩
theorem znT{x:InsD}{v:UInt8}(f:jJ w b R)(hm:R.many<24)(ha:x.ar=true->x.an.toNat<8):Calls PG 320 #[AtR b,zde x,u8 v] w fun e w' =>
  e = .returned (.tuple #[])/\jJ w' b (znL R x)/\w.grownBy w' (some b):=by
 refine zD 23 [AtR b,zde x,u8 v] Tryz.func320 ?_;have g:=zt w (.cells (zU.enc x).toArray 68);have j:Bw w (w.alloc (.cells (zU.enc x).toArray 68)):=zba w _;have h:=zb j f;refine⟨[.bool x.ar,u8 x.an],rfl,qX (o:=3) (n:=2) g,hlt g,cmo (zb5 h ha) ?_⟩;rintro e Y ⟨rfl,a⟩;have c:=zb a g;have r:=zb a h;refine⟨_,zc (za c) (i:=2) rfl,_,zc (za c) (i:=8) rfl,cmo (zgN (k:=2) (l:=x.loc) (v:=(qE x.ar x.an R).1) (m:=x.mode) (d:=(qE x.ar x.an R).2) r hm) ?_⟩;rintro e Z ⟨rfl,p,q,s⟩;exact⟨rfl,p,zd (zi j) (zd (zi a) q)⟩
theorem znV{x:InsD}{v:UInt8}(f:jJ w b R)(hm:R.many<24):Calls PG 325 #[AtR b,zde x,u8 v] w fun e w' =>
  e = .returned (.tuple #[])/\jJ w' b (zot R x)/\w.grownBy w' (some b):=by
 refine zD 10 [AtR b,zde x,u8 v] Tryz.func325 ?_;have j:=zt w (.cells (zU.enc x).toArray 68);have a:Bw w (w.alloc (.cells (zU.enc x).toArray 68)):=zba w _;have h:=zb a f;refine⟨_,zc (za j) (i:=8) rfl,cmo (zgN (k:=3) (l:=0) (v:=0) (m:=x.mode) (d:=0) h hm) ?_⟩;rintro e Z ⟨rfl,c,g,n⟩;exact⟨rfl,c,zd (zi a) g⟩
end
def zue (x:InsD):Prop:=(x.op=1/\x.dst.toNat<8)\/(x.op=2/\(x.ar=true->x.an.toNat<8))\/x.op=7
def fnV (g:Nat):Value := .func (.func g) #[] #[]
def zvA:List Value:=[.nilFunc,fnV 319,fnV 320,fnV 321,fnV 322,fnV 323,fnV 324,fnV 325,fnV 326]
theorem zri{w:Wd}:CB 309 #[] w (.agg zvA.toArray):=by
 refine zD 2 [] Tryz.func309 ?_;have a:=zt w (.cells (List.replicate 9 Value.nilFunc).toArray 397);have b:Bw w (w.alloc (.cells (List.replicate 9 Value.nilFunc).toArray 397)):=zba w _;exact⟨zvA,rfl,zp (v := .agg zvA.toArray) zyv a rfl rfl rfl ⟨zvA,rfl,za (zn a),rfl,zk b (UW _) _⟩⟩
theorem zvq{R:RunD}{x:InsD}{v:UInt8}(hx:zue x):(zY R x v).pc=R.pc+1/\(zY R x v).many=R.many+1:=by
 unfold zY zdO;rcases hx with⟨h,_⟩ | ⟨h,_⟩ | h
 ·rw[Gn h];exact⟨rfl,rfl⟩
 ·rw[Gm (by rw[h];decide),Gn h];exact⟨rfl,rfl⟩
 ·rw[Gm (by rw[h];decide),Gm (by rw[h];decide),Gm (by rw[h];decide),Gm (by rw[h];decide),Gm (by rw[h];decide),Gm (by rw[h];decide),Gn h];exact⟨rfl,rfl⟩
theorem zqu{α:Type}{E:Enc α}{w X:Wd}{q:OA}{l:List α}{b:Nat}(h:SlR E w q l)(hq:∀a,q=some a->a.block≠b)(g:w.grownBy X (some b)):SlR E X q l:=by
 rcases h with h | ⟨f,o,d,c,k⟩
 ·exact .inl h
 ·refine .inr ⟨f,o,d,nL c g.size,fun i j=>jp (g.block f c (fun e=>hq _ d (by cases e;rfl))) (k i j)⟩
theorem ztd{l:List InsD}{R:RunD}(h:l[R.pc]?=none):∀n,goR l n R=R
 | 0=>rfl
 | n+1=>by unfold goR;rw [h]
theorem zvi{l:List InsD}{R:RunD}{x:InsD}(h:l[R.pc]?=some x)(hr:zae x=true):∀n,goR l n R=R
 | 0=>rfl
 | n+1=>by unfold goR;rw [h];simp only [hr,Gl]
theorem zvh{l:List InsD}{R:RunD}{x:InsD}(h:l[R.pc]?=some x)(hr:zae x=false)(n:Nat):goR l (n+1) R=goR l n (zY R x 0):=by
 show(match l[R.pc]? with | none=>R | some x=>if zae x then R else goR l n (zY R x 0))=_;rw[h];simp only[hr,Ku,Gj]
theorem zb7{n:Nat}{f:Nat->Value}(h:∀i,(f i).oneCell'=true):(seg n f).all Value.oneCell'=true:=by
 unfold seg;rw[Qg];intro u a;obtain⟨i,_,rfl⟩:=UI.1 a;exact h i
theorem zqi:(zoU).toArray.size=259:=by kernel_rfl
theorem zsl(R:RunD):(jd R).all Value.oneCell'=true:=by
 unfold jd;rw[Ux,QF,QF,QF,QF,QF,QF,zb7 fun _=>rfl,zb7 fun _=>rfl,zb7 fun _=>rfl,zb7 fun _=>rfl,zb7 fun _=>rfl];have:(zfi R.ev).all Value.oneCell'=true:=Qg.2 fun u a=>zdf (E:=evE) _ u a;rw[this];rfl
theorem jr{α:Type}{E:Enc α}{w X:Wd}{q:OA}{l:List α}(h:SlR E w q l)(hs:∀a,q=some a->X.heap[a.block]?=w.heap[a.block]?):SlR E X q l:=by
 rcases h with h | ⟨c,o,d,g,j⟩
 ·exact .inl h
 ·have b:=hs _ d;have b:X.heap[c]?=w.heap[c]?:=b;refine .inr ⟨c,o,d,?_,fun i e=>jp b (j i e)⟩;have f:w.heap[c]?=some w.heap[c]:=Jn g;rw[f] at b;exact hlt b
structure RowF {α:Type} (E:Enc α) (n0:Nat) (F:Nat->Prop) (X:Wd) (q:OA) (l:List α):Prop where
 row:SlR E X q l
 out:∀a,q=some a->a.block<n0/\¬F a.block
theorem RowF.keep{α:Type}{E:Enc α}{n0:Nat}{F F' G:Nat->Prop}{X Y:Wd}{q:OA}{l:List α}(h:RowF E n0 F X q l)(hn:n0<=X.heap.size)(k:KeepsG G F' X Y)(hG:∀k,k<n0->G k->F k):RowF E n0 F' Y q l:=by
 refine⟨jr h.row fun a b=>?_,fun a b=>⟨(h.out a b).1,fun e=>?_⟩⟩
 ·have:=h.out a b;exact k.same _ (by omega) fun d=>this.2 (hG _ this.1 d)
 ·have:=h.out a b;rcases k.fp _ e with c | c
  ·exact this.2 (hG _ this.1 c)
  ·omega
def StR (pre:List RunD) (vs:List Value) (W:Wd):Prop:=∃R b,pre.getLast?=some R/\vs=[AtR b]/\jJ W b R
section
variable{yl n0 cap cd:Nat}{J Jx:List RunD->(Nat->Prop)->Wd->Prop}{xs:List RunD}{l:List InsD}{dom:List UInt8}{q p:OA}
theorem zls{w:Wd}:Calls PG 124 #[.slice q l.length cap,.slice p dom.length cd] w fun e w'=>e = .returned (.func (.func 192) #[] #[AtR w.heap.size,AtR (w.heap.size+1)])/\w'.heap[w.heap.size]?=some (.cells #[.slice q l.length cap] 64 (0,0))/\w'.heap[w.heap.size+1]?=some (.cells #[.slice p dom.length cd] 23 (0,0))/\w'.heap.size=w.heap.size+2/\Bw w w':=by
 refine zD 6 [.slice q l.length cap,.slice p dom.length cd] Tryz.func124 ?_;have b:=wz w (.cells #[.slice q l.length cap] 64);have c:=zt (w.alloc (.cells #[.slice q l.length cap] 64)) (.cells #[.slice p dom.length cd] 23);have a:=wz (w.alloc (.cells #[.slice q l.length cap] 64)) (.cells #[.slice p dom.length cd] 23);rw[b] at c a;refine⟨?_,qO _ (zt w _),c,a,((zba w _)).alloc (by simp) _⟩;rw[<- b];rfl
end
theorem zxe{P:Program}{t e:TypeId}(hu:P.underlying t=some (.slice e))(d:Nat)(a:OA)(n c:Nat)(w:Wd):(Op.equalIn (d+1) t (.slice a n c) (.slice none 0 0)).run P w = .ok a.isNone w:=by
 cases a <;> simp[Op.equalIn,Uq hu]
theorem zlf{n m:Nat}(h:n<256)(hm:Nat.ble 256 m=true):n<m:=nL h (JQ hm)
theorem zxf{P:Program}{t e:TypeId}(hu:P.underlying t=some (.slice e))(x y:Operand)(a:OA)(n c:Nat)(w:Wd):(do eqGuard .eql t x y (.slice a n c) (.slice none 0 0);binOp .eql t (.slice a n c) (.slice none 0 0):Sem Value).run P w = .ok (.bool a.isNone) w:=by
 have h:(Op.equal t (.slice a n c) (.slice none 0 0)).run P w = .ok a.isNone w:=by
  exact zxe hu 9999 a n c w
 have b:(eqGuard .eql t x y (.slice a n c) (.slice none 0 0)).run P w = .ok () w:=by
  simp only[eqGuard,Ut,Ku,Gj,UT]
 rw[US,b];simp only[KZ,binOp,US,h,UT]
theorem ziv{α:Type}{E:Enc α}{T:TypeId}{w:Wd}:OwnS E T w.heap.size (w.alloc (.cells #[] T)) (some ⟨w.heap.size,0,none⟩) 0 []:=by
 unfold OwnS World.ownsRow;exact⟨by simp,.inr ⟨w.heap.size,0,#[],rfl,UW _,zt w _,UW _,UZ _,by simp,by simp⟩⟩
theorem znA{p:OA}{cap:Nat}{l:List UInt8}{w:Wd}(hl:SlR zS w p l)(hn:l.length<=1000000)(hc:p=none->cap=0) :
  Calls PG 62 #[.slice p l.length cap] w fun e w'=>(∃q c,e = .returned (.slice q l.length c)/\OwnS zS 5 w.heap.size w' q c l)/\Bw w w':=by
 refine zD 8 [.slice p l.length cap] Tryz.func62 ?_;refine⟨_,fun w=>zxf Tryz.underlying23 _ _ p l.length cap w,?_⟩
 cases p with
 | none =>
  refine brT ?_;have e:=hl.none;subst e;exact⟨⟨none,0,rfl,OwnS.nil⟩,Gb _ _⟩
 | some a =>
  refine brF ⟨⟨by decide,by decide,rfl⟩,[],rfl,?_⟩;have b:Bw w (w.alloc (.cells #[] 5)):=zba w _;refine zf5 (E:=zS) (T:=5) (B:=w.heap.size) (l:=[]) (news:=l) (cap:=0) Tryz.underlying23 k5 rfl rfl rfl ziv rfl (hl.below b) (fun h=>by cases h) b.size (by simp;omega) (by simp;omega) ?_;intro g d w' i j f;exact⟨⟨g,d,rfl,i⟩,b.trans f⟩
theorem zw0{x:UInt8}{w:Wd}:Calls PG 297 #[u8 x] w fun e w'=>e = .returned (.bool false)/\w=w':=by
 refine zD 6 [u8 x] Tryz.func297 ?_;refine⟨rb ?_,rfl⟩;rw[Up rfl];rfl
theorem jX{x y:UInt8}{w:Wd}:Calls PG 264 #[u8 x,u8 y] w fun e w'=>e = .returned (.bool (decide ((x.toNat:Int)<(y.toNat:Int))))/\w=w':=by
 refine zD 17 [u8 x,u8 y] Tryz.func264 ?_;refine cmo zw0 ?_;rintro e _ ⟨rfl,rfl⟩;exact brF (brF ⟨rfl,rfl⟩)
def zbw:UInt8->List UInt8->List UInt8
 | _,[]=>[]
 | p,y::r=>if y=p then zbw p r else y::zbw y r
def ded:List UInt8->List UInt8
 | []=>[]
 | x::r=>x::zbw x r
theorem zgQ:∀(A:List UInt8) (p x:UInt8),zbw p (A++[x])=if x=(p::A).getLast (by simp) then zbw p A else zbw p A++[x]
 | [],p,x=>by
  show(if x=p then[] else[x])=_;rfl
 | y::A,p,x=>by
  show(if y=p then zbw p (A++[x]) else y::zbw y (A++[x]))=_;have a:(p::y::A).getLast (by simp)=(y::A).getLast (by simp):=List.getLast_cons (by simp);rw[a];show _=if x=(y::A).getLast _ then(if y=p then zbw p A else y::zbw y A) else(if y=p then zbw p A else y::zbw y A)++[x]
  by_cases h:y=p
  ·subst h;rw[Gn rfl,Gn rfl,zgQ A y x]
  ·rw[Gm h,Gm h,zgQ A y x]
   split <;> rfl
theorem ztz{A:List UInt8}(h:A≠[])(x:UInt8):ded (A++[x])=if x=A.getLast h then ded A else ded A++[x]:=by
 cases A with
 | nil=>exact Gp rfl h
 | cons y A =>
  show y::zbw y (A++[x])=_;rw[zgQ];show _=if x=(y::A).getLast h then y::zbw y A else y::zbw y A++[x]
  split <;> rfl
theorem zm7{l:List UInt8}{i:Nat}(h0:0<i)(hi:i<l.length):ded (l.take (i+1))=if l[i]=l[i-1] then ded (l.take i) else ded (l.take i)++[l[i]]:=by
 rw[tsg hi];have b:l.take i≠[]:=by
  intro e;have:=Gi List.length e;rw[Qr,QK] at this;omega
 rw[ztz b];have:(l.take i).getLast b=l[i-1]:=by
  have a:(l.take i).length-1=i-1:=by rw[Qr];omega
  simp only[List.getLast_eq_getElem,List.getElem_take,a]
 rw[this]
section
variable{B g cap:Nat}{l:List UInt8}{w:Wd}
theorem zen{X:Wd}{sp:List Value}{M:List UInt8}(h:RowS zS 5 X g sp M){i:Nat}(hi:i<M.length):X.cell? ⟨g,0+i*1,none⟩=some (u8 M[i]):=by
 have:=zc (h.at hi) (i:=0) (v:=u8 M[i]) rfl;exact this
theorem znn{M:List UInt8}{i:Nat}{x:UInt8}(h:M[i]?=some x):∃hi:i<M.length,M[i]=x:=by
 obtain⟨hi,e⟩:=Jr.1 h;exact⟨hi,e⟩
theorem zoT(ho:OwnS zS 5 B w (some ⟨g,0,none⟩) cap l)(hn:l.length<=1000000) :
  Calls PG 123 #[.slice (some ⟨g,0,none⟩) l.length cap] w fun e w'=>e = .returned (.slice (some ⟨g,0,none⟩) (ded l).length cap)/\OwnS zS 5 B w' (some ⟨g,0,none⟩) cap (ded l)/\w.grownBy w' (some g):=by
 refine zD 61 [.slice (some ⟨g,0,none⟩) l.length cap] Tryz.func123 ?_;rcases ho.inv with⟨h,_⟩ | ⟨g',t,hg,hB,ae,ay,ak,ac,ab⟩
 ·cases h
 simp only[KY,Ur,Gh] at hg;subst hg;have ac:t.size=cap:=by rw[ac];exact UX _
 obtain⟨c,al⟩:=nm (t.toList.drop l.length);have ab:t.toList.take l.length=l.flatMap zS.enc:=by rw[<- ab];congr 1;exact(UX _).symm
 have hR:RowS zS 5 w g c l:=by
  unfold RowS;rw[ae,<- ab,al,JO]
 have aw:l.length+c.length=cap:=by
  have h1:t.toList.length=cap:=by rw[Array.length_toList];exact ac
  rw[al,Qq,h1];omega
 refine biE (fun h=>?_) fun h=>?_
 ·have h:(l.length:Int)<2:=dT h;have e:ded l=l:=by
   match l,h with
   | [],_=>rfl
   | [x],_=>rfl
   | x::y::r,h=>simp at h;omega
  rw[e];exact⟨rfl,ho,qo w _⟩
 have h:¬(l.length:Int)<2:=dF h;have ax:2<=l.length:=by omega
 refine⟨Nat,fun k=>⟨[(0,.slice (some ⟨g,0,none⟩) l.length cap),(3,i64 (k:Nat))],[]⟩,fun k X=>1<=k/\k<=l.length/\ded (l.take k)=l.take k/\RowS zS 5 X g c l/\w.grownBy X (some g),fun k=>l.length-k,1,
  (cvE rfl rfl),⟨UW _,by omega,by
   cases l with
   | nil=>rfl
   | cons x r=>rfl,hR,qo w _⟩,?_⟩
 rintro k X ⟨au,az,d,ai,gX⟩;refine biE (fun o=>?_) fun o=>?_
 ·have o:(k:Int)<(l.length:Int):=dT o;have hk:k<l.length:=by omega
  refine DrawE.ord [] [0,1,2,3,4,5,6,7,8,9] (by kernel_rfl) ?_;have u:RowS zS 5 X.drew g c l:=ai;have gd:w.grownBy X.drew (some g):=zd gX ⟨rfl,rfl,rfl,UW _,fun _ _ _=>rfl⟩;refine⟨k,rfl,hk,_,zen u hk,((k-1:Nat):Int),(ze (by omega)).trans (by omega),k-1,rfl,by omega,?_⟩;refine⟨_,zen u (by omega),?_⟩;have p:=zm7 (l:=l) au hk;refine biE (fun z=>?_) fun z=>?_
  ·have z:l[k]=l[k-1]:=qS.1 (dT z);rw[Gn z] at p;refine⟨k,rfl,by show k<=l.length;omega,?_⟩;have ap:qJ (some ⟨g,0,none⟩) cap k 1=some ⟨g,k,none⟩:=by
    unfold qJ;rw[Gm (by omega)];show some ((⟨g,0,none⟩:Addr).add (k*1))=_;rw[za1,UX,UQ]
   refine⟨Nat×Nat×List UInt8,fun s=>⟨[(0,.slice (some ⟨g,0,none⟩) l.length cap),(3,i64 (s.2.1:Nat)),(4,.slice (some ⟨g,k,none⟩) (l.length-k) (cap-k)),(5,i64 (s.1:Nat))],[]⟩,
    fun s Y=>(1<=s.1/\k+s.1<=l.length)/\(s.2.1=(ded (l.take (k+s.1))).length/\s.2.1+1<=k+s.1)/\(s.2.2.length=l.length/\s.2.2.take s.2.1=ded (l.take (k+s.1))/\∀j,s.2.1<=j->s.2.2[j]?=l[j]?)/\RowS zS 5 Y g c s.2.2/\w.grownBy Y (some g),fun s=>l.length-s.1,(1,k,l),
    ⟨.cons rfl (.cons rfl (.cons (by rw[<- ap];rfl) (.cons rfl .nil))),rfl⟩,⟨⟨UW _,by show k+1<=_;omega⟩,⟨by show k=_;rw[p,d,Qr];omega,UW _⟩,⟨rfl,by show l.take k=_;rw[p,d],fun j _=>rfl⟩,u,gd⟩,?_⟩
   rintro⟨m,q,M⟩ Y ⟨⟨ag,an⟩,⟨hq,am⟩,⟨hM,n,f⟩,ad,gY⟩;dsimp only at ag an hq am hM n f ad ⊢;refine biE (fun o=>?_) fun o=>?_
   ·have o:(m:Int)<((l.length-k:Nat):Int):=dT o;have hi:k+m<l.length:=(by omega);have g1:M[k+m]?=some l[k+m]:=(by rw[f _ (by omega),gE hi]);have g0:M[k+m-1]?=some l[k+m-1]:=(by rw[f _ (by omega),gE (by omega)]);obtain⟨i1,e1⟩:=znn g1;obtain⟨i0,e0⟩:=znn g0;have nx:=zm7 (l:=l) (i:=k+m) (by omega) hi;refine DrawE.ord [] [0,1,2,3,4,5,6,7,8,9] (by kernel_rfl) ?_;have b:RowS zS 5 Y.drew g c M:=ad;have af:w.grownBy Y.drew (some g):=zd gY ⟨rfl,rfl,rfl,UW _,fun _ _ _=>rfl⟩;have a1:Y.drew.cell? ⟨g,k+m*1,none⟩=some (u8 l[k+m]):=by
     have:=zen b i1;rw[e1,UX,UQ] at this;rw[UX];exact this
    have a0:Y.drew.cell? ⟨g,k+(m-1)*1,none⟩=some (u8 l[k+m-1]):=by
     have:=zen b i0;rw[e0,UX,UQ] at this;rw[UX,<- Nat.add_sub_assoc ag];exact this
    refine⟨m,rfl,by omega,?_⟩;refine⟨_,a1,((m-1:Nat):Int),(ze (by omega)).trans (by omega),m-1,rfl,by omega,?_⟩;refine⟨_,a0,biE (fun a=>?_) fun a=>?_⟩
    ·have a:¬l[k+m]=l[k+m-1]:=fun e=>by
      have a:(!decide (((l[k+m]).toNat:Int)=((l[k+m-1]).toNat:Int)))=true:=a;rw[e,Up rfl] at a;cases a
     rw[Gm a] at nx;refine⟨m,rfl,by omega,?_⟩;refine⟨_,a1,q,rfl,by omega,?_⟩;refine zgj k5 rfl b (i:=q) (by omega) l[k+m] fun Z av gZ sZ=>nxI (by omega) (nxI (by omega) ⟨(m+1,q+1,M.set q l[k+m]),(cvE rfl rfl),⟨⟨by omega,by show k+(m+1)<=_;omega⟩,⟨?_,by show q+1+1<=k+(m+1);omega⟩,⟨by rw[QL];exact hM,?_,fun j hj=>?_⟩,av,zd af gZ⟩,zdc (by omega)⟩)
     ·show q+1=(ded (l.take (k+(m+1)))).length;rw[<- UB,nx,lap,<- hq];rfl
     ·show(M.set q l[k+m]).take (q+1)=ded (l.take (k+(m+1)));rw[<- UB,nx,<- n];rw[tsg (by rw[QL];omega),List.take_set_of_le (UW _),List.getElem_set_self]
     ·show(M.set q l[k+m])[j]?=l[j]?;have hj:q+1<=j:=hj;rw[JT (by omega)];exact f j (by omega)
    ·have ao:l[k+m]=l[k+m-1]:=by
      have a:(!decide (((l[k+m]).toNat:Int)=((l[k+m-1]).toNat:Int)))=false:=a;have h2:decide (((l[k+m]).toNat:Int)=((l[k+m-1]).toNat:Int))=true:=(by simpa using a);exact qS.1 (dT h2)
     rw[Gn ao] at nx;exact nxI (by omega) ⟨(m+1,q,M),(cvE rfl rfl),⟨⟨by omega,by show k+(m+1)<=_;omega⟩,⟨by show q=(ded (l.take (k+(m+1)))).length;rw[<- UB,nx];exact hq,by show q+1<=k+(m+1);omega⟩,⟨hM,by show M.take q=ded (l.take (k+(m+1)));rw[<- UB,nx];exact n,f⟩,b,af⟩,zdc (by omega)⟩
   ·have o:¬(m:Int)<((l.length-k:Nat):Int):=dF o;have aq:k+m=l.length:=(by omega);rw[aq,Qt] at hq n;refine⟨q,rfl,by show q<=l.length;omega,?_⟩;have ah:qJ (some ⟨g,0,none⟩) cap q 1=some ⟨g,q,none⟩:=by
     unfold qJ;rw[Gm (by omega)];show some ((⟨g,0,none⟩:Addr).add (q*1))=_;rw[za1,UX,UQ]
    have aa:(M.flatMap zS.enc++c).length=cap:=by
     rw[lap,zZ,hM];show l.length*1+_=_;omega
    have ar:SatR ((Builtin.clear_ #[23] 0 #[.slice (some ⟨g,q,none⟩) (l.length-q) (cap-q)]).run PG Y) fun _ Z=>Z.heap[g]?=some (.cells ((M.flatMap zS.enc++c).take q++List.replicate (l.length-q) (u8 0)++(M.flatMap zS.enc++c).drop (q+(l.length-q))).toArray 5 (0,0))/\Y.grownBy Z (some g) :=
     zrr Tryz.underlying23 k5 rfl rfl (by omega) ad (by show q+(l.length-q)<=(M.flatMap zS.enc++c).length;rw[aa];omega) fun Z fZ gZ sZ=>⟨fZ,gZ⟩
    obtain⟨v,Z,aj,fZ,gZ⟩:=ar;refine⟨v,Z,by rw[ah];exact aj,?_⟩;refine⟨q,rfl,by show q<=cap;omega,?_⟩;rw[<- hq];refine⟨by show Ending.returned (Value.slice (qJ (some ⟨g,0,none⟩) cap 0 1) (q-0) (cap-0))=_;rw[zah];rfl,?_,zd gY gZ⟩;unfold OwnS World.ownsRow;refine⟨by rw[zZ],.inr ⟨g,cap,_,rfl,hB,fZ,by omega,ak,?_,?_⟩⟩
    ·show(List.length _)=cap*1;rw[lap,lap,Qr,JL,Qq,aa];omega
    ·rw[<- hq];show((M.flatMap zS.enc++c).take q++List.replicate (l.length-q) (u8 0)++(M.flatMap zS.enc++c).drop (q+(l.length-q))).take (q*1)=_;rw[UX,KN,Jg (by rw[Qr,aa];omega),List.take_take,Nat.min_self,Jg (by rw[zZ,hM];show q<=l.length*1;omega),<- n];have:=JO q M;have e2:M.flatMap zS.enc=(M.take q).flatMap zS.enc++(M.drop q).flatMap zS.enc:=(by rw[<- Kh,JO]);rw[e2,QT (by rw[zZ,Qr];show min q M.length*1=q;omega)]
  ·have z:¬l[k]=l[k-1]:=fun e=>(dF z) (by rw[e]);rw[Gm z,d] at p;exact nxI (by omega) ⟨k+1,(cvE rfl rfl),⟨by omega,hk,by rw[p,tsg hk],u,gd⟩,zdc (by omega)⟩
 ·have o:¬(k:Int)<(l.length:Int):=dF o;obtain rfl:k=l.length:=by omega
  rw[Qt] at d;rw[d];refine⟨rfl,?_,gX⟩;unfold OwnS World.ownsRow;refine⟨by rw[zZ],.inr ⟨g,cap,_,rfl,hB,ai,by omega,ak,?_,?_⟩⟩
  ·show(l.flatMap zS.enc++c).length=cap*1;rw[lap,zZ];show l.length*1+_=_;omega
  ·exact QT (zZ l)
end
def prE:Enc (Nat×Nat):=⟨fun x=>[u8 (UInt8.ofNat x.1),u8 (UInt8.ofNat x.2)],2,fun _=>rfl,by decide,fun a u hu=>by
 simp only[UA,Qs,Gk] at hu;rcases hu with rfl | rfl <;> rfl⟩
def zia:Enc Nat:=⟨fun x=>[s32 x],1,fun _=>rfl,by decide,fun a u hu=>by
 simp only[UA,Qs,Gk] at hu;subst hu;rfl⟩
theorem zwB{s:Nat}{w:Wd}(hT:Tz32M w)(h0:s≠0)(h:s<2^32):Calls PG 269 #[s32 s] w fun e w'=>e = .returned (i64 (ctz s:Nat))/\w=w':=by
 refine zD 14 [s32 s] Tryz.func269 ?_;obtain⟨f,i⟩:=zi9 h0 h;obtain⟨d,g⟩:=zr0 i;refine brN (Ue (fun e=>h0 (by omega))) ⟨((2^32-s:Nat):Int),by unfold IntKind.wrap;simp only[IntKind.bits,IntKind.signed,Ug,Ku,Gj];omega,?_⟩;refine⟨((2^ctz s:Nat):Int),(zoY (a:=s) (b:=2^32-s) h (by omega)).trans (by rw[f]),?_⟩;refine⟨((2^ctz s*125613361%4294967296:Nat):Int),by
  have e:(((2^ctz s:Nat):Int)*125613361)=((2^ctz s*125613361:Nat):Int):=by rw[QE];rfl
  rw[e];generalize 2^ctz s*125613361=n;unfold IntKind.wrap;simp only[IntKind.bits,IntKind.signed,Ug,Ku,Gj];omega,?_⟩
 refine⟨by decide,((2^ctz s*125613361%4294967296/2^27:Nat):Int),by
  generalize 2^ctz s*125613361%4294967296=n;show(n:Int).fdiv (2^(min (Int.toNat (27:Int)) IntKind.u32.bits))=_;rw[show min (Int.toNat (27:Int)) IntKind.u32.bits=27 from rfl,Jl _ (by decide)];omega,?_⟩
 refine⟨_,rfl,d,?_⟩;have c:(zjI.map u8)[2^ctz s*125613361%4294967296/2^27]?=some (u8 (UInt8.ofNat (ctz s))):=by rw[KT,g];rfl
 refine⟨u8 (UInt8.ofNat (ctz s)),by rw[UX];exact zc hT c,?_⟩;have e:(UInt8.ofNat (ctz s)).toNat=ctz s:=by rw[KH];omega
 exact⟨(ctz s:Int),by rw[e];exact ze (by omega),rfl,rfl⟩
def zap:Nat->List Nat->List (Nat×Nat)
 | _,[]=>[]
 | i,s::r=>(els s).map (fun a=>(a,i))++zap (i+1) r
theorem zit(f:Nat->Nat):∀(n i:Nat),zap i ((List.range' i n).map f)=(List.range' i n).flatMap fun i=>(els (f i)).map fun a=>(a,i)
 | 0,i=>rfl
 | n+1,i=>by
  rw[List.range'_succ,Uz,KR];show(els (f i)).map _++zap (i+1) _=_;rw[zit f n (i+1)]
theorem zex(f:Nat->Nat)(n:Nat):zap 0 ((List.range n).map f)=zdz f n:=by
 unfold zdz;rw[List.range_eq_range'];exact zit f n 0
theorem zoc(l:List Nat)(x:Nat):∀i,zap i (l++[x])=zap i l++(els x).map (fun a=>(a,i+l.length)):=by
 induction l with
 | nil=>intro i;show (els x).map _++[]=_;rw [QG];rfl
 | cons y r ih =>
  intro i;show(els y).map _++zap (i+1) (r++[x])=((els y).map _++zap (i+1) r)++_;rw[ih,KN,Qp];congr 3;funext a;congr 1;omega
theorem zgy:∀(l:List Nat) (i:Nat),(zap i l).length<=64*l.length
 | [],_=>UZ _
 | x::r,i=>by
  show((els x).map _++zap (i+1) r).length<=_;rw[lap,QJ,Qp];have a:=zgy r (i+1);have b:=zfV x;omega
section
variable{p:OA}{cap:Nat}{l:List Nat}{w:Wd}
theorem zk4(hl:SlR zia w p l)(hn:l.length<=24)(hb:∀x∈l,x<2^32)(hT:Tz32M w) :
  Calls PG 194 #[.slice p l.length cap] w fun e w'=>(∃q c,e = .returned (.slice q (zap 0 l).length c)/\OwnS prE 46 w.heap.size w' q c (zap 0 l))/\Bw w w':=by
 refine zD 30 [.slice p l.length cap] Tryz.func194 ?_;refine⟨Nat×OA×Nat,fun s=>⟨[(3,.slice s.2.1 (zap 0 (l.take s.1)).length s.2.2),(6,.slice p l.length cap),(7,i64 l.length),(8,i64 (s.1:Nat))],[]⟩,
  fun s X=>s.1<=l.length/\OwnS prE 46 w.heap.size X s.2.1 s.2.2 (zap 0 (l.take s.1))/\Bw w X,fun s=>l.length-s.1,(0,none,0),
  (cvE rfl rfl),⟨UZ _,OwnS.nil,Gb _ _⟩,?_⟩
 rintro⟨k,q,c⟩ X ⟨hk,j,n⟩;dsimp only at hk j ⊢;refine biE (fun f=>?_) fun f=>?_
 ·have f:(k:Int)<(l.length:Int):=dT f;have d:k<l.length:=by omega
  obtain⟨b,o,hp,ag,aa⟩:=(hl.below n).at d;have ep:some (Value.slice p l.length cap)=some (Value.slice (some ⟨b,o,none⟩) l.length cap):=by rw[hp]
  subst hp;refine⟨k,rfl,d,s32 l[k],by have:=zc (aa k d) (i:=0) (v:=s32 l[k]) rfl;exact this,?_⟩;have ac:=hb _ (gM d);have ad:(l.take k).length=k:=by rw[Qr];omega
  have ah:=zgy (l.take k) 0;have tk:l.take (k+1)=l.take k++[l[k]]:=tsg d;refine⟨Nat×List (Nat×Nat)×OA×Nat,fun s=>⟨[(3,.slice s.2.2.1 s.2.1.length s.2.2.2),(4,i64 (k:Nat)),(5,s32 s.1),(6,.slice (some ⟨b,o,none⟩) l.length cap),(7,i64 l.length),(8,i64 (k:Nat))],[]⟩,
   fun s Y=>(zap 0 (l.take (k+1))=s.2.1++(els s.1).map (fun a=>(a,k))/\s.1<2^32/\s.2.1.length+(els s.1).length<=64*(k+1))/\OwnS prE 46 w.heap.size Y s.2.2.1 s.2.2.2 s.2.1/\Bw w Y,fun s=>s.1,(l[k],zap 0 (l.take k),q,c),
   (cvE rfl rfl),⟨⟨by rw[tk,zoc,ad,UQ],ac,by have:=zfV l[k];show(zap 0 (l.take k)).length+(els l[k]).length<=_;omega⟩,j,n⟩,?_⟩
  rintro⟨s,m,q,c⟩ Y ⟨⟨t,z,g⟩,j,h⟩;dsimp only at t z g j ⊢;refine biE (fun f=>?_) fun f=>?_
  ·have f:(!decide ((s:Int)=0))=true:=f;have y:s≠0:=fun e=>by
    subst e;exact Gp f (by decide)
   have u:s<2^64:=nL z (by decide);obtain⟨e1,e2,_,_⟩:=j5 y u;obtain⟨_,af⟩:=zi9 y z;rw[e1] at g;refine cmo (zwB (hT.below h) y z) ?_;rintro e _ ⟨rfl,rfl⟩;refine⟨_,w8N _,_,w8N _,prE.enc (ctz s,k),rfl,⟨by decide,by decide,rfl⟩,prE.enc (ctz s,k),zbs rfl rfl,?_⟩;have r:Bw Y (Y.alloc (.cells (prE.enc (ctz s,k)).toArray 46)):=zba _ _;simp only[Qp] at g;refine jG (E:=prE) (T:=46) (B:=w.heap.size) (l:=m) (news:=[(ctz s,k)]) (cap:=c) (m:=1) Tryz.underlying47 k46 rfl rfl rfl (j.below r) rfl (q9 prE (ctz s,k)) (by have:=h.size;have:=r.size;omega) (by omega) (by show(m.length+1)*2<=_;omega) ?_;intro p2 c2 Z oZ gZ ab ae;refine⟨((s-1:Nat):Int),(w32 (a:=(s:Int)-1) (by omega)).trans (by omega),((qM s:Nat):Int),zoY (a:=s) (b:=s-1) z (by omega),(qM s,m++[(ctz s,k)],p2,c2),(cvE rfl rfl),⟨⟨?_,by show qM s<_;omega,?_⟩,oZ,((zst h r)).trans ab⟩,e2⟩
   ·rw[t,e1,Uz,KN];rfl
   ·simp only[lap,Qp,QK];omega
  ·have f:(!decide ((s:Int)=0))=false:=f;have y:s=0:=by
    have h1:decide ((s:Int)=0)=true:=(by simpa using f);exact Uw (dT h1)
   subst y;rw[zaC,UG,QG] at t;exact nxI (by omega) ⟨(k+1,q,c),⟨.cons (by rw[t];rfl) (.cons rfl (.cons rfl (.cons rfl .nil))),rfl⟩,⟨d,by show OwnS prE _ _ _ _ _ (zap 0 (l.take (k+1)));rw[t];exact j,h⟩,zdc (by omega)⟩
 ·have f:¬(k:Int)<(l.length:Int):=dF f;obtain rfl:k=l.length:=by omega
  rw[Qt] at j;refine⟨⟨q,c,by rw[Qt];rfl,j⟩,n⟩
theorem zkD{p:OA}{cap:Nat}{l:List Ev}{w:Wd}(hl:SlR evE w p l)(hn:l.length<=100000)(hc:p=none->cap=0) :
  Calls PG 69 #[.slice p l.length cap] w fun e w'=>(∃q c,e = .returned (.slice q l.length c)/\OwnS evE 80 w.heap.size w' q c l)/\Bw w w':=by
 refine zD 8 [.slice p l.length cap] Tryz.func69 ?_;refine⟨_,fun w=>zxf Tryz.underlying72 _ _ p l.length cap w,?_⟩
 cases p with
 | none =>
  refine brT ?_;have e:=hl.none;subst e;exact⟨⟨none,0,rfl,OwnS.nil⟩,Gb _ _⟩
 | some a =>
  refine brF ⟨⟨by decide,by decide,rfl⟩,[],rfl,?_⟩;have b:Bw w (w.alloc (.cells #[] 80)):=zba w _;refine zf5 (E:=evE) (T:=80) (B:=w.heap.size) (l:=[]) (news:=l) (cap:=0) Tryz.underlying72 k80 rfl rfl rfl ziv rfl (hl.below b) (fun h=>by cases h) b.size (by simp;omega) (by show(0+l.length)*16<=_;omega) ?_;intro g d w' i j f;exact⟨⟨g,d,rfl,i⟩,b.trans f⟩
end
def zjz (P:PathD) (q1:OA) (c1:Nat) (q2:OA) (c2:Nat) (q3:OA) (c3:Nat) (q4:OA) (c4:Nat):List Value :=
 [.slice q1 P.ev.length c1,.slice q2 P.data.length c2,.slice q3 P.ctrl.length c3,.slice q4 P.rmw.length c4]++seg 8 (fun i=>u8 (P.regs i))
theorem zmm(P:PathD)(q1 c1 q2 c2 q3 c3 q4 c4):(zjz P q1 c1 q2 c2 q3 c3 q4 c4).all Value.oneCell'=true:=by
 unfold zjz;rw[QF,zb7 fun _=>rfl];rfl
theorem zmn(P:PathD)(q1 c1 q2 c2 q3 c3 q4 c4):(zjz P q1 c1 q2 c2 q3 c3 q4 c4).length=12:=by
 unfold zjz;rw[lap,zB];rfl
def zyf (R:RunD):Prop:=∀i,i<R.many->R.data i<2^32/\R.ctrl i<2^32/\R.att i<2^32
section
variable{R:RunD}{b:Nat}{w:Wd}
theorem zqx{X:Wd}{o n m:Nat}{f:Nat->Nat}(hb:b<X.heap.size)(h:∀i,i<n->X.cell? ⟨b,o+i,none⟩=some (s32 (f i)))(hm:m<=n):SlR zia X (some ⟨b,o,none⟩) ((List.range m).map f):=by
 refine .inr ⟨b,o,rfl,hb,fun i c=>?_⟩;have c:i<m:=by simpa using c
 rw[Qn,Kz];refine zaD fun j v a=>?_
 cases j with
 | zero =>
  have a:s32 (f i)=v:=by simpa [zia] using a
  rw[<- a];show X.cell? ⟨b,o+i*1+0,none⟩=_;rw[UX,UK];exact h i (by omega)
 | succ j=>simp [zia] at a
theorem zvw{X:Wd}{m:Nat}(f:jJ X b R)(hm:m<=24):SlR evE X (some ⟨b,19,none⟩) ((List.range m).map R.ev):=by
 have c:=zo8 f;refine .inr ⟨b,19,rfl,hlt f,fun i a=>?_⟩;have a:i<m:=by simpa using a
 rw[Qn,Kz,<- zto R.ev (show i<24 by omega)];exact zP c
theorem zwS(f:jJ w b R)(hm:R.many<=24)(hB:zyf R)(hT:Tz32M w) :
  Calls PG 126 #[AtR b] w fun e w'=>(∃q1 c1 q2 c2 q3 c3 q4 c4,e = .returned (.agg (zjz (jN R) q1 c1 q2 c2 q3 c3 q4 c4).toArray)/\OwnS evE 80 w.heap.size w' q1 c1 (jN R).ev/\OwnS prE 46 w.heap.size w' q2 c2 (jN R).data/\OwnS prE 46 w.heap.size w' q3 c3 (jN R).ctrl/\OwnS prE 46 w.heap.size w' q4 c4 (jN R).rmw)/\Bw w w':=by
 refine zD 44 [AtR b] Tryz.func126 ?_;obtain⟨Z0,ab⟩:∃Z0:List Value,Z0=zjz ⟨[],[],[],[],fun _=>0⟩ none 0 none 0 none 0 none 0:=⟨_,rfl⟩;have f0:=zt w (.cells Z0.toArray 145);have ai:Bw w (w.alloc (.cells Z0.toArray 145)):=zba w _;obtain⟨X,hX⟩:=nm ((w.alloc (.cells Z0.toArray 145)).drew);have a:Bw w X:=by rw[hX];exact ai.drew
 have ae:X.heap[w.heap.size]?=some (.cells Z0.toArray 145 (0,0)):=by rw[hX];exact f0
 have u:=zb a f;have aj:(w.alloc (.cells (#[.slice none 0 0,.slice none 0 0,.slice none 0 0,.slice none 0 0,.int .u8 0,.int .u8 0,.int .u8 0,.int .u8 0,.int .u8 0,.int .u8 0,.int .u8 0,.int .u8 0]:Array Value) 145)).drew=X:=by rw[hX,ab];rfl
 refine DrawE.ord [41] [0,1,2,3,4,5,6,7,9,10,11,12,13,14,15,16,18,19,20,21,22,23,24,25,27,28,29,30,31,32,33,34,36,37,38,39,8,17,26,35,40,41] (by kernel_rfl) ?_;have cut:∀(o e:Nat),Value.slice (qJ (some ⟨b,0+o,none⟩) 24 0 e) (R.many-0) (24-0) = .slice (some ⟨b,o,none⟩) R.many 24:=fun o e=>by rw[zah,UQ];rfl
 have s:∀{α:Type} (g:Nat->α),((List.range R.many).map g).length=R.many:=fun g=>by rw[QJ,KU]
 have af:=hlt u;have sd:∀{o:Nat} {g:Nat->Nat},(∀i,i<24->(jd R)[o+i]?=some (s32 (g i)))->SlR zia X (some ⟨b,o,none⟩) ((List.range R.many).map g):=fun{o g} h=>zqx af (fun i d=>by
  have:=zc (za u) (h i d);rw[UQ] at this;exact this) hm
 rw[aj];refine⟨_,zc (za u) (i:=18) (zci R),R.many,rfl,hm,_,zc (za u) (i:=18) (zci R),R.many,rfl,hm,_,zc (za u) (i:=18) (zci R),R.many,rfl,hm,_,zc (za u) (i:=18) (zci R),R.many,rfl,hm,seg 8 (fun i=>u8 (R.regs i)),zB _ _,?_,af,?_⟩
 ·have:=zP (n:=1) (m:=8) (za u);have e:((jd R).toArray.toList.drop 1).take 8=seg 8 (fun i=>u8 (R.regs i)):=by
   show(seg 8 (fun i=>u8 (R.regs i))++_).take 8=_;exact QT (zB _ _)
  rw[e] at this;exact this
 have c1:=zkD (w:=X) (cap:=24) (zvw u hm) (by rw[s];omega) (fun h=>by cases h);rw[s,<- cut 19 7] at c1;refine cmo c1 ?_;rintro e Y1 ⟨⟨q1,k1,rfl,o1⟩,j⟩;refine⟨j,?_⟩;have ak:=zst a j;have c2:=zk4 (w:=Y1) (cap:=24) ((sd (o:=187) (g:=R.data) fun i d=>zl7 R d).below j) (by rw[s];exact hm) (fun x hx=>by
  obtain⟨i,d,rfl⟩:=UI.1 hx;exact(hB i (Ul.1 d)).1) (hT.below ak)
 rw[s,<- cut 187 1,zex] at c2;refine cmo c2 ?_;rintro e Y2 ⟨⟨q2,k2,rfl,o2⟩,t⟩;refine⟨t,?_⟩;have aa:=zst j t;have ah:=zst a aa;have c3:=zk4 (w:=Y2) (cap:=24) ((sd (o:=211) (g:=R.ctrl) fun i d=>zl8 R d).below aa) (by rw[s];exact hm) (fun x hx=>by
  obtain⟨i,d,rfl⟩:=UI.1 hx;exact(hB i (Ul.1 d)).2.1) (hT.below ah)
 rw[s,<- cut 211 1,zex] at c3;refine cmo c3 ?_;rintro e Y3 ⟨⟨q3,k3,rfl,o3⟩,q⟩;refine⟨q,?_⟩;have z:=zst aa q;have ag:=zst a z;have c4:=zk4 (w:=Y3) (cap:=24) ((sd (o:=235) (g:=R.att) fun i d=>zkV R d).below z) (by rw[s];exact hm) (fun x hx=>by
  obtain⟨i,d,rfl⟩:=UI.1 hx;exact(hB i (Ul.1 d)).2.2) (hT.below ag)
 rw[s,<- cut 235 1,zex] at c4;refine cmo c4 ?_;rintro e Y4 ⟨⟨q4,k4,rfl,o4⟩,k⟩;refine⟨k,?_⟩;have ad:=zst z k;have am:=zst a ad;have al:(jN R).ev.length=R.many:=s _;obtain⟨cs,r⟩:=nm (zjz (jN R) q1 k1 q2 k2 q3 k3 q4 k4);refine⟨cs,by rw[r];unfold zjz;rw[al];rfl,?_⟩;have f4:=zb ad ae;have ac:cs.all Value.oneCell'=true:=by rw[r];exact zmm ..
 have y:cs.length=12:=by rw[r];exact zmn ..
 refine zp (v := .agg cs.toArray) zq7 f4 y (by rw[ab];rfl) ac ?_;have f5:=zn (cs':=(Value.agg cs.toArray).cells) f4;have hs:w.heap.size<=X.heap.size:=a.size;have keep:∀{α:Type} {E:Enc α} {T B c:Nat} {p:OA} {l:List α},X.heap.size<=B->OwnS E T B Y4 p c l->OwnS E T w.heap.size (Y4.setRow w.heap.size (Value.agg cs.toArray).cells) p c l:=fun{α E T B c p l} hB o=>by
  refine OwnS.lower (o.kept (qW Y4 w.heap.size _) fun g hg e=>?_) (UL hs hB);rcases o.inv with⟨h,_⟩ | ⟨g',an,h,h2,_⟩
  ·rw[h] at hg;cases hg
  ·rw[h] at hg;simp only[KY,Ur,Gh] at hg e;have:=hlt ae;omega
 have n1:=j.size;have n2:=t.size;have n3:=q.size;refine⟨cs,y,za f5,⟨q1,k1,q2,k2,q3,k3,q4,k4,by rw[r];rfl,keep (UW _) (((o1.below t).below q).below k),keep (by omega) ((o2.below q).below k),keep (by omega) (o3.below k),keep (by omega) o4⟩,zk am (UW _) _⟩
end
theorem zao(c:UInt8)(w:Wd):Calls PG 230 #[u8 c] w fun e w'=>e = .returned (i64 (qF c))/\w=w':=by
 refine qA 47 [u8 c] (.s .p (.c .p .p)) Tryz.func230 ?_;refine⟨Unit,fun _=>⟨[(0,u8 c)],[]⟩,fun _ X=>zhb c=false/\ziR c=false/\w=X,?_,?_⟩
 ·repeat first
   | exact⟨(),(cvE rfl rfl),by unfold zhb;simp only [*];rfl,by unfold ziR;simp only [*];rfl,rfl⟩
   | exact⟨by
     first
     | (have e:zhb c=true:=(by unfold zhb;simp only [*];rfl);unfold qF;rw [e];rfl)
     | (have e1:zhb c=false:=(by unfold zhb;simp only [*];rfl);have z:ziR c=true:=(by unfold ziR;simp only [*];rfl);unfold qF;rw [e1,z];rfl),rfl⟩
   | refine brT ?_
   | refine brF ?_
   | refine brE (by assumption) ?_
   | refine brN (by assumption) ?_
   | refine biE (fun h=>?_) fun h=>?_
 rintro _ _ ⟨x,y,rfl⟩;have o:qF c=(bif eqB c 32||eqB c 9 then 1 else bif eqB c 10 then 2 else bif eqB c 95 then 5 else bif eqB c 35 then 7 else bif zpB c then 6 else 0):=by unfold qF;rw[x,y];rfl
 rw[o];clear o x y;unfold zpB;refine biE (fun h=>?_) fun h=>?_
 ·have h:eqB c 32=true:=h;exact brE h ⟨by rw[h];rfl,rfl⟩
 have k:eqB c 32=false:=h;refine biE (fun h=>?_) fun h=>?_
 ·have h:eqB c 9=true:=h;exact⟨by rw[k,h];rfl,rfl⟩
 have t:eqB c 9=false:=h;refine biE (fun h=>?_) fun h=>?_
 ·have h:eqB c 10=true:=h;exact⟨by rw[k,t,h];rfl,rfl⟩
 have m:eqB c 10=false:=h;refine biE (fun h=>?_) fun h=>?_
 ·have h:eqB c 95=true:=h;exact⟨by rw[k,t,m,h];rfl,rfl⟩
 have q:eqB c 95=false:=h;refine biE (fun h=>?_) fun h=>?_
 ·have h:eqB c 35=true:=h;exact⟨by rw[k,t,m,q,h];rfl,rfl⟩
 have v:eqB c 35=false:=h;rw[k,t,m,q,v];refine biE (fun h=>?_) fun h=>?_
 ·have h:eqB c 61=true:=h;exact brE h ⟨by rw[h];rfl,rfl⟩
 have a:eqB c 61=false:=h;refine biE (fun h=>?_) fun h=>?_
 ·have h:eqB c 43=true:=h;exact brE h ⟨by rw[a,h];rfl,rfl⟩
 have b:eqB c 43=false:=h;refine biE (fun h=>?_) fun h=>?_
 ·have h:eqB c 45=true:=h;exact brE h ⟨by rw[a,b,h];rfl,rfl⟩
 have f:eqB c 45=false:=h;refine biE (fun h=>?_) fun h=>?_
 ·have h:eqB c 94=true:=h;exact brE h ⟨by rw[a,b,f,h];rfl,rfl⟩
 have g:eqB c 94=false:=h;refine biE (fun h=>?_) fun h=>?_
 ·have h:eqB c 38=true:=h;exact brE h ⟨by rw[a,b,f,g,h];rfl,rfl⟩
 have i:eqB c 38=false:=h;refine biE (fun h=>?_) fun h=>?_
 ·have h:eqB c 124=true:=h;exact brE h ⟨by rw[a,b,f,g,i,h];rfl,rfl⟩
 have d:eqB c 124=false:=h;refine biE (fun h=>?_) fun h=>?_
 ·have h:eqB c 33=true:=h;exact brE h ⟨by rw[a,b,f,g,i,d,h];rfl,rfl⟩
 have j:eqB c 33=false:=h;refine biE (fun h=>?_) fun h=>?_
 ·have h:eqB c 40=true:=h;exact brE h ⟨by rw[a,b,f,g,i,d,j,h];rfl,rfl⟩
 have l:eqB c 40=false:=h;refine biE (fun h=>?_) fun h=>?_
 ·have h:eqB c 41=true:=h;exact brE h ⟨by rw[a,b,f,g,i,d,j,l,h];rfl,rfl⟩
 have n:eqB c 41=false:=h;refine biE (fun h=>?_) fun h=>?_
 ·have h:eqB c 58=true:=h;exact brE h ⟨by rw[a,b,f,g,i,d,j,l,n,h];rfl,rfl⟩
 have r:eqB c 58=false:=h;refine biE (fun h=>?_) fun h=>?_
 ·have h:eqB c 60=true:=h;exact⟨by rw[a,b,f,g,i,d,j,l,n,r,h];rfl,rfl⟩
 have u:eqB c 60=false:=h;exact⟨by rw[a,b,f,g,i,d,j,l,n,r,u];rfl,rfl⟩
theorem zmM(c:UInt8)(w:Wd):Calls PG 232 #[u8 c] w fun e w'=>e = .returned (.bool (qV c))/\w=w':=by
 refine zD 16 [u8 c] Tryz.func232 ?_;refine cmo (zao c w) ?_;rintro e _ ⟨rfl,rfl⟩;have a:∀k:Nat,decide ((qF c:Int)=(k:Int))=decide (qF c=k):=fun k=>by rw[QC];omega
 refine biE (fun h=>?_) fun h=>?_
 ·have h:decide (qF c=3)=true:=(a 3).symm.trans h;exact Gf (fun _=>⟨rb (by unfold qV;rw[h];rfl),rfl⟩) (fun h=>by cases h)
 have b:decide (qF c=3)=false:=(a 3).symm.trans h;refine biE (fun h=>?_) fun h=>?_
 ·have h:decide (qF c=4)=true:=(a 4).symm.trans h;exact⟨rb (by unfold qV;rw[b,h];rfl),rfl⟩
 have d:decide (qF c=4)=false:=(a 4).symm.trans h;exact⟨rb (by unfold qV;rw[b,d];exact a 5),rfl⟩
theorem zch{p:UInt8->Bool}{s:List UInt8}{k:Nat}(h:k<s.length):j8 p (s.drop k)=if p s[k] then j8 p (s.drop (k+1))+1 else 0:=by
 rw[Jp h];rfl
theorem zhB{p:UInt8->Bool}{s:List UInt8}{k:Nat}(h:s.length<=k):j8 p (s.drop k)=0:=by
 rw[JA h];rfl
theorem zmN{p:UInt8->Bool}(s:List UInt8)(k:Nat)(h:k<=s.length):k+j8 p (s.drop k)<=s.length:=by
 have:=zl9 p (s.drop k);rw[Qq] at this;omega
theorem zcF{a b:Nat}:decide ((a:Int)=(b:Int))=decide (a=b):=by rw[QC];omega
theorem zdl{s:List UInt8}{k:Nat}(h:k<s.length):(bs s).data.toList[k]?=some s[k]:=by
 show s[k]?=_;exact gE h
theorem zk7{g a:Nat}{s:List UInt8}{w:Wd}(h:zI w ⟨g,0,none⟩ [qH s,i64 a]) :
  CB 315 #[At0 g] w (.bool (decide (s.length<=a))):=by
 refine zD 13 [At0 g] Tryz.func315 ?_;refine DrawE.ord [] [0,1,2,3,4,5,6,7,8,9,10] (by kernel_rfl) ?_;have h:zI w.drew ⟨g,0,none⟩ [qH s,i64 a]:=jp rfl h;refine⟨_,zc h (i:=1) rfl,_,zc h (i:=0) rfl,rb ?_,(Gb _ _).drew⟩;show decide ((s.length:Int)<=(a:Int))=_;rw[QC];omega
theorem zqe{g a:Nat}{s:List UInt8}{w:Wd}(h:zI w ⟨g,0,none⟩ [qH s,i64 a])(hg:g<w.heap.size) :
  CB 313 #[At0 g] w (.bool (zar s a)):=by
 refine zD 18 [At0 g] Tryz.func313 ?_;refine DrawE.ord [] [0,1,2,3,4,5,6,7,8,9,10,11,12,13,14,15] (by kernel_rfl) ?_;have h:zI w.drew ⟨g,0,none⟩ [qH s,i64 a]:=jp rfl h;refine cmo (zk7 h) ?_;rintro e V ⟨rfl,d⟩;refine⟨d,?_⟩;have f:=(Gb w.heap.size w).drew.trans d;have j:=jP d hg h;refine biE (fun b=>?_) fun b=>?_
 ·have b:s.length<=a:=dT b;have:zar s a=true:=by unfold zar;rw[JI b]
  exact⟨rb this.symm,f⟩
 ·have b:¬s.length<=a:=dF b;have c:a<s.length:=by omega
  refine⟨_,zc j (i:=0) rfl,_,zc j (i:=1) rfl,a,rfl,c,s[a],zdl c,cmo (zao _ _) ?_⟩;rintro e _ ⟨rfl,rfl⟩;refine⟨Gb _ _,?_⟩;have:zar s a=decide (qF s[a]=2):=by unfold zar;rw[gE c]
  exact⟨rb (by rw[this];exact zcF),f⟩
theorem zql{g a:Nat}{s:List UInt8}{w:Wd}(h:zI w ⟨g,0,none⟩ [qH s,i64 a])(ha:a<s.length)(hs:s.length<=140737488351232) :
  Calls PG 328 #[At0 g] w fun e w'=>e = .returned (i64 (a+1+j8 qV (s.drop (a+1)):Nat))/\w=w':=by
 refine zD 28 [At0 g] Tryz.func328 ?_;refine⟨_,zc h (i:=1) rfl,(a+1:Nat),(ze (by omega)).trans (by omega),Nat,fun k=>⟨[(0,At0 g),(3,.int .i64 (k:Nat))],[]⟩,fun k X=>k<=s.length/\k+j8 qV (s.drop k)=a+1+j8 qV (s.drop (a+1))/\w=X,fun k=>s.length-k,a+1,(cvE rfl rfl),⟨ha,rfl,rfl⟩,?_⟩;rintro k _ ⟨j,b,rfl⟩;dsimp only at j b ⊢;refine⟨_,zc h (i:=0) rfl,biE (fun f=>?_) fun f=>?_⟩
 ·have f:(k:Int)<(s.length:Int):=dT f;have d:k<s.length:=by omega
  refine⟨_,zc h (i:=0) rfl,k,rfl,d,s[k],zdl d,cmo (zmM _ _) ?_⟩;rintro e _ ⟨rfl,rfl⟩;refine biE (fun c=>?_) fun c=>?_
  ·refine⟨(k+1:Nat),(ze (by omega)).trans (by omega),k+1,(cvE rfl rfl),⟨d,?_,rfl⟩,zdc (by omega)⟩;rw[zch d,Gn c] at b;omega
  ·have c:¬qV s[k]=true:=by rw[Qf];exact c
   rw[zch d,Gm c] at b;exact⟨by rw[<- b];rfl,rfl⟩
 ·have f:¬(k:Int)<(s.length:Int):=dF f;refine Gf (fun h=>by cases h) (fun _=>?_);rw[zhB (by omega)] at b;exact⟨by rw[<- b];rfl,rfl⟩
theorem zmu{g a:Nat}{s:List UInt8}{w:Wd}(h:zI w ⟨g,0,none⟩ [qH s,i64 a])(ha:a<s.length)(hs:s.length<=140737488351232) :
  Calls PG 329 #[At0 g] w fun e w'=>e = .returned (i64 (a+1+j8 zbX (s.drop (a+1)):Nat))/\w=w':=by
 refine zD 29 [At0 g] Tryz.func329 ?_;refine⟨_,zc h (i:=1) rfl,(a+1:Nat),(ze (by omega)).trans (by omega),Nat,fun k=>⟨[(0,At0 g),(3,.int .i64 (k:Nat))],[]⟩,fun k X=>k<=s.length/\k+j8 zbX (s.drop k)=a+1+j8 zbX (s.drop (a+1))/\w=X,fun k=>s.length-k,a+1,(cvE rfl rfl),⟨ha,rfl,rfl⟩,?_⟩;rintro k _ ⟨m,c,rfl⟩;dsimp only at m c ⊢;refine⟨_,zc h (i:=0) rfl,biE (fun j=>?_) fun j=>?_⟩
 ·have j:(k:Int)<(s.length:Int):=dT j;have f:k<s.length:=by omega
  refine⟨_,zc h (i:=0) rfl,k,rfl,f,s[k],zdl f,cmo (zao _ _) ?_⟩;rintro e _ ⟨rfl,rfl⟩;have l:decide ((qF s[k]:Int)=4)=zbX s[k]:=zcF (b:=4);refine biE (fun d=>?_) fun d=>?_
  ·refine⟨(k+1:Nat),(ze (by omega)).trans (by omega),k+1,(cvE rfl rfl),⟨f,?_,rfl⟩,zdc (by omega)⟩;rw[zch f,Gn (l.symm.trans d)] at c;omega
  ·have d:¬zbX s[k]=true:=by rw[Qf];exact l.symm.trans d
   rw[zch f,Gm d] at c;exact⟨by rw[<- c];rfl,rfl⟩
 ·have j:¬(k:Int)<(s.length:Int):=dF j;refine Gf (fun h=>by cases h) (fun _=>?_);rw[zhB (by omega)] at c;exact⟨by rw[<- c];rfl,rfl⟩
def zh7 (s:List UInt8) (a:Nat) (c:UInt8):Nat:=if(eqB c 61||eqB c 33)&&decide (s[a+1]?=some 61) then a+2 else a+1
theorem zqv{g a:Nat}{s:List UInt8}{w:Wd}(h:zI w ⟨g,0,none⟩ [qH s,i64 a])(ha:a<s.length)(hs:s.length<=140737488351232) :
  CB 327 #[At0 g] w (i64 (zh7 s a s[a])):=by
 refine qA 46 [At0 g] (.s .p (.s .p (.s .p (.c .p .p)))) Tryz.func327 ?_;refine⟨_,zc h (i:=1) rfl,(a+1:Nat),(ze (by omega)).trans (by omega),DrawE.ord [] [0,1,2,3,4,5,6,7,8,9] (by kernel_rfl) ?_⟩;have l:zI w.drew ⟨g,0,none⟩ [qH s,i64 a]:=jp rfl h;refine⟨_,zc l (i:=0) rfl,_,zc l (i:=1) rfl,a,rfl,ha,s[a],zdl ha,Unit,fun _=>⟨[(3,i64 (zh7 s a s[a]))],[]⟩,fun _ X=>X=w.drew,?_,?_⟩
 ·have m:((eqB s[a] 61||eqB s[a] 33)&&decide (s[a+1]?=some 61))=false->∃_:Unit,some (Value.int .i64 ((a+1:Nat):Int))=some (i64 (zh7 s a s[a])):=fun r=>⟨(),by unfold zh7;rw[r];rfl⟩;refine biE (fun n=>?_) fun n=>?_
  ·have o:(eqB s[a] 61||eqB s[a] 33)=true:=by
    have:eqB s[a] 61=true:=n;rw[this];rfl
   refine brT ⟨_,zc l (i:=0) rfl,biE (fun f=>?_) fun f=>?_⟩
   ·have f:((a+1:Nat):Int)<(s.length:Int):=dT f;have j:a+1<s.length:=(by omega);refine⟨_,zc l (i:=0) rfl,a+1,rfl,j,s[a+1],zdl j,biE (fun k=>?_) fun k=>?_⟩
    ·refine⟨(a+2:Nat),(ze (by omega)).trans (by omega),(),⟨.cons ?_ .nil,rfl⟩,rfl⟩;have b:s[a+1]=61:=by
      apply Ud.1;have:((s[a+1].toNat:Nat):Int)=61:=dT k;have q:(61:UInt8).toNat=61:=rfl;omega
     unfold zh7;rw[o,gE j,b];rfl
    ·obtain⟨_,e⟩:=m (by
      have b:¬s[a+1]=61:=fun e=>by rw[e] at k;cases k
      rw[gE j,Ue (by simpa using b),Uf])
     exact⟨(),⟨.cons e .nil,rfl⟩,rfl⟩
   ·have f:¬((a+1:Nat):Int)<(s.length:Int):=dF f;refine brF ?_;obtain⟨_,e⟩:=m (by rw[JI (by omega)];simp);exact⟨(),⟨.cons e .nil,rfl⟩,rfl⟩
  ·have n:eqB s[a] 61=false:=n;refine biE (fun d=>?_) fun d=>?_
   ·have o:(eqB s[a] 61||eqB s[a] 33)=true:=by
     have:eqB s[a] 33=true:=d;rw[this,Bool.or_true]
    refine⟨_,zc l (i:=0) rfl,biE (fun f=>?_) fun f=>?_⟩
    ·have f:((a+1:Nat):Int)<(s.length:Int):=dT f;have j:a+1<s.length:=(by omega);refine⟨_,zc l (i:=0) rfl,a+1,rfl,j,s[a+1],zdl j,biE (fun k=>?_) fun k=>?_⟩
     ·refine⟨(a+2:Nat),(ze (by omega)).trans (by omega),(),⟨.cons ?_ .nil,rfl⟩,rfl⟩;have b:s[a+1]=61:=by
       apply Ud.1;have:((s[a+1].toNat:Nat):Int)=61:=dT k;have q:(61:UInt8).toNat=61:=rfl;omega
      unfold zh7;rw[o,gE j,b];rfl
     ·obtain⟨_,e⟩:=m (by
       have b:¬s[a+1]=61:=fun e=>by rw[e] at k;cases k
       rw[gE j,Ue (by simpa using b),Uf])
      exact⟨(),⟨.cons e .nil,rfl⟩,rfl⟩
    ·have f:¬((a+1:Nat):Int)<(s.length:Int):=dF f;refine brF ?_;obtain⟨_,e⟩:=m (by rw[JI (by omega)];simp);exact⟨(),⟨.cons e .nil,rfl⟩,rfl⟩
   ·have d:eqB s[a] 33=false:=d;refine brF (brF ?_);obtain⟨_,e⟩:=m (by rw[n,d];rfl);exact⟨(),⟨.cons e .nil,rfl⟩,rfl⟩
 rintro _ _ rfl;exact⟨rfl,(Gb _ _).drew⟩
def ScV (X:Wd) (g:Nat) (s:List UInt8) (a:Nat) (op:Bool):Prop:=X.heap[g]?=some (.cells #[qH s,i64 a,.bool op] 331 (0,0))
theorem ScV.cells{X:Wd}{g a:Nat}{s:List UInt8}{op:Bool}(h:ScV X g s a op):zI X ⟨g,0,none⟩ [qH s,i64 a]:=by
 have:=qX (o:=0) (n:=2) h;exact this
theorem ScV.below{X Y:Wd}{g a:Nat}{s:List UInt8}{op:Bool}(h:ScV X g s a op)(hb:Bw X Y):ScV Y g s a op:=zb hb h
theorem zhK{a b c:Wd}{g:Nat}(h:a.grownBy b (some g))(k:Bw b c):a.grownBy c (some g):=zd h (zi k)
theorem zgt{X:Wd}{g a:Nat}{s:List UInt8}{op:Bool}(h:ScV X g s a op)(v:Nat){K:Wd->Prop}(k:∀Y,ScV Y g s v op->X.grownBy Y (some g)->Y.heap.size=X.heap.size->K Y) :
  SatR ((storeVar 3 ⟨g,1,none⟩ (i64 v)).run PG X) fun _ w'=>K w' :=
 jn k3 rfl h (o:=1) (by show 1<3;omega) (v:=i64 v) rfl rfl fun Y b d c=>k Y b d c
theorem zmk{X:Wd}{g a:Nat}{s:List UInt8}{op:Bool}(h:ScV X g s a op)(v:Bool){K:Wd->Prop}(k:∀Y,ScV Y g s a v->X.grownBy Y (some g)->Y.heap.size=X.heap.size->K Y) :
  SatR ((storeVar 4 ⟨g,2,none⟩ (.bool v)).run PG X) fun _ w'=>K w' :=
 jn k4 rfl h (o:=2) (by show 2<3;omega) (v := .bool v) rfl rfl fun Y b d c=>k Y b d c
theorem zdn{s:List UInt8}{k:Nat}(h:k<s.length):zar s k=decide (qF s[k]=2):=by unfold zar;rw[gE h]
theorem zjk{s:List UInt8}{k:Nat}(h:s.length<=k):zar s k=true:=by unfold zar;rw[JI h]
theorem zwT{g a:Nat}{s:List UInt8}{op:Bool}{w:Wd}(h:ScV w g s a op)(ha:a<=s.length)(hs:s.length<=140737488351232) :
  Calls PG 312 #[At0 g] w fun e w'=>(∃v,e = .returned v)/\ScV w' g s (zL s a) op/\w.grownBy w' (some g):=by
 refine qA 50 [At0 g] (.c .p (.c .p .p)) Tryz.func312 ?_;obtain⟨b,hb⟩:=nm (zcN s a);have aa:b<=s.length:=by rw[hb];exact zmN s a ha
 refine⟨Unit,fun _=>⟨[(0,At0 g)],[]⟩,fun _ X=>ScV X g s b op/\w.grownBy X (some g),?_,?_⟩
 ·refine⟨Nat,fun k=>⟨[(0,At0 g)],[]⟩,fun k X=>k<=s.length/\k+j8 zlD (s.drop k)=b/\ScV X g s k op/\w.grownBy X (some g),fun k=>s.length-k,a,(cvE rfl rfl),⟨ha,hb.symm,h,qo _ _⟩,?_⟩;rintro k X ⟨hk,m,o,r⟩;dsimp only at hk m ⊢;refine DrawE.ord [] [0,1,2,3,4,5,6,7,8,9,10,11,12,13,14,15] (by kernel_rfl) ?_;have n:ScV X.drew g s k op:=o;refine cmo (zk7 n.cells) ?_;rintro e Y ⟨rfl,f⟩;refine⟨f,?_⟩;have l:=n.below f;have q:w.grownBy Y (some g):=zd r (zi ((Gb _ X).drew.trans f));refine biE (fun j=>?_) fun j=>?_
  ·have j:s.length > k:=by
    have:(!decide (s.length<=k))=true:=j;simpa using this
   refine⟨_,zc l.cells (i:=0) rfl,_,zc l.cells (i:=1) rfl,k,rfl,j,s[k],zdl j,cmo (zao _ _) ?_⟩;rintro e _ ⟨rfl,rfl⟩;refine⟨Gb _ _,?_⟩;have hd:decide ((qF s[k]:Int)=1)=zlD s[k]:=zcF (b:=1);rw[zch j] at m;refine biE (fun d=>?_) fun d=>?_
   ·rw[Gn (hd.symm.trans d)] at m;exact⟨_,zc l.cells (i:=1) rfl,(k+1:Nat),(ze (by omega)).trans (by omega),zgt l (k+1) fun Z hZ gZ sZ=>⟨k+1,(cvE rfl rfl),⟨j,by omega,hZ,zd q gZ⟩,zdc (by omega)⟩⟩
   ·have d:¬zlD s[k]=true:=(by rw[Qf];exact hd.symm.trans d);rw[Gm d] at m;exact⟨(),(cvE rfl rfl),by rw[<- m];exact l,q⟩
  ·have j:s.length<=k:=by
    have:(!decide (s.length<=k))=false:=j;simpa using this
   refine brF ?_;rw[zhB j] at m;exact⟨(),(cvE rfl rfl),by rw[<- m];exact l,q⟩
 clear h;rintro _ X ⟨o,r⟩;have z:zL s a=match s[b]? with
   | some c=>if qF c=7 then b+j8 zeS (s.drop b) else b
   | none=>b:=by rw [hb];rfl
 refine⟨Unit,fun _=>⟨[(0,At0 g)],[]⟩,fun _ X=>(∃x:b<s.length,qF s[b]=7)/\ScV X g s b op/\w.grownBy X (some g),?_,?_⟩
 ·refine DrawE.ord [] [0,1,2,3,4,5,6,7,8,9,10,11,12,13,14] (by kernel_rfl) ?_;have n:ScV X.drew g s b op:=o;refine cmo (zk7 n.cells) ?_;rintro e Y ⟨rfl,f⟩;refine⟨f,?_⟩;have l:=n.below f;have q:w.grownBy Y (some g):=zd r (zi ((Gb _ X).drew.trans f));refine biE (fun j=>?_) fun j=>?_
  ·have j:s.length<=b:=dT j;refine brT ?_;have:zL s a=b:=by rw[z,JI j]
   rw[this];exact⟨⟨_,rfl⟩,l,q⟩
  ·have j:¬s.length<=b:=dF j;have x:b<s.length:=by omega
   refine⟨_,zc l.cells (i:=0) rfl,_,zc l.cells (i:=1) rfl,b,rfl,x,s[b],zdl x,cmo (zao _ _) ?_⟩;rintro e _ ⟨rfl,rfl⟩;refine⟨Gb _ _,biE (fun d=>?_) fun d=>?_⟩
   ·have d:¬qF s[b]=7:=by
     have t:(!decide ((qF s[b]:Int)=7))=true:=d;simp at t;omega
    have:zL s a=b:=(by rw[z,gE x];simp only[Gm d]);rw[this];exact⟨⟨_,rfl⟩,l,q⟩
   ·have d:qF s[b]=7:=by
     have t:(!decide ((qF s[b]:Int)=7))=false:=d;simp at t;omega
    exact⟨(),(cvE rfl rfl),⟨x,d⟩,l,q⟩
 clear o r X;rintro _ X ⟨⟨x,h7⟩,o,r⟩;have z:zL s a=b+j8 zeS (s.drop b):=by rw[z,gE x];simp only[Gn h7]
 rw[z];refine⟨Nat,fun k=>⟨[(0,At0 g)],[]⟩,fun k X=>k<=s.length/\k+j8 zeS (s.drop k)=b+j8 zeS (s.drop b)/\ScV X g s k op/\w.grownBy X (some g),fun k=>s.length-k,b,(cvE rfl rfl),⟨aa,rfl,o,r⟩,?_⟩;clear o r X;rintro k X ⟨hk,m,o,r⟩;dsimp only at hk m ⊢;refine cmo (zqe o.cells (hlt o)) ?_;rintro e Y ⟨rfl,f⟩;have l:=o.below f;have q:=zhK r f;refine biE (fun d=>?_) fun d=>?_
 ·have d:zar s k=false:=by
   have t:(!zar s k)=true:=d;simpa using t
  have u:k<s.length:=by
   by_cases y:k<s.length
   ·exact y
   ·rw[zjk (by omega)] at d;cases d
  have hn:zeS s[k]=true:=by
   rw[zdn u] at d;unfold zeS;rw[d];rfl
  rw[zch u,Gn hn] at m;exact⟨_,zc l.cells (i:=1) rfl,(k+1:Nat),(ze (by omega)).trans (by omega),zgt l (k+1) fun Z hZ gZ sZ=>⟨k+1,(cvE rfl rfl),⟨u,by omega,hZ,zd q gZ⟩,zdc (by omega)⟩⟩
 ·have d:zar s k=true:=by
   have t:(!zar s k)=false:=d;simpa using t
  have y:j8 zeS (s.drop k)=0:=by
   by_cases y:k<s.length
   ·rw[zdn y] at d;rw[zch y,Gm];unfold zeS;rw[d];decide
   ·exact zhB (by omega)
  rw[y] at m;have m:k=b+j8 zeS (s.drop b):=by omega
  exact⟨⟨_,rfl⟩,by rw[<- m];exact l,q⟩
theorem zpn{s:List UInt8}{a:Nat}(ha:a<=s.length):zL s a<=s.length:=by
 have b:zcN s a<=s.length:=zmN s a ha;unfold zL
 split
 ·split
  ·exact zmN s _ b
  ·exact b
 ·exact b
def jC:Enc Tok:=⟨fun t=>[u8 t.kind,qH t.text,i64 t.pos],3,fun _=>rfl,by decide,fun a u hu=>by
 simp only[UA,Qs,Gk] at hu;rcases hu with rfl | rfl | rfl <;> rfl⟩
theorem zow{s:List UInt8}{a:Nat}(ha:a<s.length)(c:UInt8):a<zbv s a c/\zbv s a c<=s.length:=by
 unfold zbv
 split
 ·have:=zmN (p:=qV) s (a+1) ha;omega
 ·split
  ·have:=zmN (p:=zbX) s (a+1) ha;omega
  ·split
   ·rename_i h;have b:s[a+1]?=some 61:=by
     simp only[bAT,dE] at h;exact h.2
    have:=(Jr.1 b).1;omega
   ·omega
theorem zoJ(s:List UInt8)(a e:Nat):(bs s).extract a e=bs ((s.drop a).take (e-a)):=by
 have h:((bs s).extract a e).data=(bs ((s.drop a).take (e-a))).data:=by
  rw[ByteArray.data_extract];apply Qc.1;rw[JR];rfl
 exact ByteArray.ext h
theorem zuu{g a:Nat}{s:List UInt8}{op:Bool}{w:Wd}(h:ScV w g s a op)(ha:a<s.length)(hs:s.length<=140737488351232) :
  Calls PG 314 #[At0 g] w fun e w'=>e = .returned (.agg (jC.enc (zlW s a s[a])).toArray)/\ScV w' g s (zbv s a s[a]) op/\w.grownBy w' (some g):=by
 refine qA 51 [At0 g] (.s .p (.s .p (.c .p .p))) Tryz.func314 ?_;obtain⟨z,hz⟩:=nm (jC.enc ⟨0,[],0⟩);obtain⟨W0,ac⟩:=nm ((w.alloc (.cells z.toArray 260)));have aa:Bw w W0:=by rw[ac];exact(zba _ _)
 have f0:W0.heap[w.heap.size]?=some (.cells z.toArray 260 (0,0)):=by rw[ac];exact zt w _
 have h0:ScV W0 g s a op:=h.below aa;have af:g<w.heap.size:=hlt h;refine⟨Nat,fun f=>⟨[(0,At0 g),(2,.pointer (some ⟨w.heap.size,0,none⟩)),(3,u8 (zha s[a])),(4,.func (.func f) #[] #[])],[]⟩,fun f X=>Bw W0 X /\
  ((qF s[a]=3/\f=328)\/(¬qF s[a]=3/\qF s[a]=4/\f=329)\/(¬qF s[a]=3/\¬qF s[a]=4/\f=327)),?_,?_⟩
 ·subst hz;subst ac;refine DrawE.ord [] [0,1,2,3,4,5,6,7,8,9,10,11] (by kernel_rfl) ?_;have hd:ScV (w.alloc (.cells (jC.enc ⟨0,[],0⟩).toArray 260)).drew g s a op:=h0;refine⟨_,zc hd.cells (i:=0) rfl,_,zc hd.cells (i:=1) rfl,a,rfl,ha,s[a],zdl ha,cmo (zao _ _) ?_⟩;rintro e _ ⟨rfl,rfl⟩;refine⟨Gb _ _,biE (fun j=>?_) fun j=>?_⟩
  ·have j:qF s[a]=3:=by have j:(qF s[a]:Int)=3:=dT j;omega
   exact⟨_,⟨.cons rfl (.cons rfl (.cons (by unfold zha;rw[Gn j];rfl) (.cons rfl .nil))),rfl⟩,(Gb _ _).drew,.inl ⟨j,rfl⟩⟩
  have j:¬qF s[a]=3:=by have j:¬(qF s[a]:Int)=3:=dF j;omega
  refine biE (fun l=>?_) fun l=>?_
  ·have l:qF s[a]=4:=by have l:(qF s[a]:Int)=4:=dT l;omega
   exact⟨_,⟨.cons rfl (.cons rfl (.cons (by unfold zha;rw[Gm j,Gn l];rfl) (.cons rfl .nil))),rfl⟩,(Gb _ _).drew,.inr (.inl ⟨j,l,rfl⟩)⟩
  ·have l:¬qF s[a]=4:=by have l:¬(qF s[a]:Int)=4:=dF l;omega
   exact⟨_,⟨.cons rfl (.cons rfl (.cons (by unfold zha;rw[Gm j,Gm l];rfl) (.cons rfl .nil))),rfl⟩,(Gb _ _).drew,.inr (.inr ⟨j,l,rfl⟩)⟩
 rintro f V ⟨hV,hf⟩;dsimp only at hV hf ⊢;have d:=h0.below hV;obtain⟨e1,e2⟩:=zow ha s[a];have ab:∀Y,Bw V Y->∀Z,ScV Z g s (zbv s a s[a]) op->Y.grownBy Z (some g)->Bw w Y/\Z.heap[w.heap.size]?=some (.cells z.toArray 260 (0,0))/\w.grownBy Z (some g):=fun Y hY Z hZ m=>by
  have q:=((zst aa hV)).trans (hY.mono (by have:=aa.size;have:=hV.size;omega));have f1:=zb hY (zb hV f0);refine⟨q,(m.block _ (hlt f1) (fun e=>by simp only[KY] at e;omega)).trans f1,zd (zi q) m⟩
 have x:∀Z,Z.heap[w.heap.size]?=some (.cells z.toArray 260 (0,0))->w.grownBy Z (some g)->∀R,Z.grownBy R (some w.heap.size)->w.grownBy R (some g):=fun Z _ m R n =>
  ⟨n.os.trans m.os,n.tape.trans m.tape,n.output.trans m.output,UL m.size n.size,fun k hk ae=>(n.block k (nL hk m.size) (fun e=>by simp only[KY] at e;omega)).trans (m.block k hk ae)⟩
 have t:∀cs,cs=jC.enc (zlW s a s[a])->∀Z,Z.heap[w.heap.size]?=some (.cells z.toArray 260 (0,0))->∀(K:Wd->Prop),(∀R,R.heap[w.heap.size]?=some (.cells (jC.enc (zlW s a s[a])).toArray 260 (0,0))->Z.grownBy R (some w.heap.size)->K R) ->
   SatR ((storeVar 260 ⟨w.heap.size,0,none⟩ (.agg cs.toArray)).run PG Z) fun _ w'=>K w':=fun cs ad Z r K k=>by
  subst hz ad;exact zp (v := .agg (jC.enc (zlW s a s[a])).toArray) zmJ r rfl rfl rfl (k _ (zn r) (qW Z _ _))
 rcases hf with⟨j,rfl⟩ | ⟨j,l,rfl⟩ | ⟨j,l,rfl⟩
 ·refine⟨_,zc d.cells (i:=1) rfl,cmo (zql d.cells ha hs) ?_⟩;rintro e _ ⟨rfl,rfl⟩;have o:Bw V V:=Gb _ _;have u:=d;have ee:a+1+j8 qV (s.drop (a+1))=zbv s a s[a]:=by unfold zbv;rw[Gn j]
  rw[ee];refine zgt u (zbv s a s[a]) fun Z hZ m sZ=>?_;obtain⟨q,r,y⟩:=ab V o Z hZ m;refine DrawE.ord [15] [0,1,2,3,4,5,6,7,8,9,10,11,12,13,14,15] (by kernel_rfl) ?_;have b:ScV Z.drew g s (zbv s a s[a]) op:=hZ;refine⟨_,zc b.cells (i:=0) rfl,_,zc b.cells (i:=1) rfl,zbv s a s[a],rfl,e2,a,rfl,by omega,?_⟩;refine⟨[u8 (zha s[a]),.string ((bs s).extract a (zbv s a s[a])),i64 a],rfl,t _ (by rw[zoJ];rfl) Z.drew r _ fun R fR n=>⟨_,rfl,za fR,rfl,?_,x Z.drew r (zd y (zi (Gb _ Z).drew)) R n⟩⟩;exact(n.block g (hlt b) (fun e=>by simp only[KY] at e;omega)).trans b
 ·refine⟨_,zc d.cells (i:=1) rfl,cmo (zmu d.cells ha hs) ?_⟩;rintro e _ ⟨rfl,rfl⟩;have o:Bw V V:=Gb _ _;have u:=d;have ee:a+1+j8 zbX (s.drop (a+1))=zbv s a s[a]:=by unfold zbv;rw[Gm j,Gn l]
  rw[ee];refine zgt u (zbv s a s[a]) fun Z hZ m sZ=>?_;obtain⟨q,r,y⟩:=ab V o Z hZ m;refine DrawE.ord [15] [0,1,2,3,4,5,6,7,8,9,10,11,12,13,14,15] (by kernel_rfl) ?_;have b:ScV Z.drew g s (zbv s a s[a]) op:=hZ;refine⟨_,zc b.cells (i:=0) rfl,_,zc b.cells (i:=1) rfl,zbv s a s[a],rfl,e2,a,rfl,by omega,?_⟩;refine⟨[u8 (zha s[a]),.string ((bs s).extract a (zbv s a s[a])),i64 a],rfl,t _ (by rw[zoJ];rfl) Z.drew r _ fun R fR n=>⟨_,rfl,za fR,rfl,?_,x Z.drew r (zd y (zi (Gb _ Z).drew)) R n⟩⟩;exact(n.block g (hlt b) (fun e=>by simp only[KY] at e;omega)).trans b
 ·refine⟨_,zc d.cells (i:=1) rfl,cmo (zqv d.cells ha hs) ?_⟩;rintro e Y ⟨rfl,o⟩;have u:=d.below o;have ee:zh7 s a s[a]=zbv s a s[a]:=by unfold zbv;rw[Gm j,Gm l];rfl
  rw[ee];refine zgt u (zbv s a s[a]) fun Z hZ m sZ=>?_;obtain⟨q,r,y⟩:=ab Y o Z hZ m;refine DrawE.ord [15] [0,1,2,3,4,5,6,7,8,9,10,11,12,13,14,15] (by kernel_rfl) ?_;have b:ScV Z.drew g s (zbv s a s[a]) op:=hZ;refine⟨_,zc b.cells (i:=0) rfl,_,zc b.cells (i:=1) rfl,zbv s a s[a],rfl,e2,a,rfl,by omega,?_⟩;refine⟨[u8 (zha s[a]),.string ((bs s).extract a (zbv s a s[a])),i64 a],rfl,t _ (by rw[zoJ];rfl) Z.drew r _ fun R fR n=>⟨_,rfl,za fR,rfl,?_,x Z.drew r (zd y (zi (Gb _ Z).drew)) R n⟩⟩;exact(n.block g (hlt b) (fun e=>by simp only[KY] at e;omega)).trans b
end Go.Proofs.YtakcdebpklffiaaGreatDoor
