/- Contracts of functions, and plain facts, for the law that the last text of this claim proves. -/
import Derived.Test.YtnadlhpkpnfmbaaGreatDoorC7
import Derived.Maps.RangeRun
import Derived.Test.YtnadlhpkpnfmbaaGreatDoorC1
import Derived.Test.YtnadlhpkpnfmbaaGreatDoorC2
import Derived.Test.YtnadlhpkpnfmbaaGreatDoorRows
import Derived.ProofKit
import Derived.OpenShut
import Derived.LaidLaws
import Derived.Below
import Derived.HandedShaped
import Derived.KernelRfl
import Derived.WalkKit
import Derived.ChangeOld
import Derived.SevenTiedAt
import Derived.LaidHandle
import Derived.Stop.LaidErr
import Derived.Lib.LaidTab
import Derived.SizedLaws
import Derived.Test.YtnadlhpkpnfmbaaGreatDoorC5
import Derived.Test.YtnadlhpkpnfmbaaGreatDoorC6
import Derived.Test.YtnadlhpkpnfmbaaGreatDoorC4
set_option linter.unusedSimpArgs false
set_option linter.unusedVariables false
namespace Go.Proofs.YtnadlhpkpnfmbaaGreatDoor
open Go.Vc Go.RowKit Go.Sei
theorem zu7 (e:Bool) (n:Nat) (x:UInt8) (w:Wd):(Instr.checkKey e (n+1) 5 (u8 x)).run PG w = .ok () w:=by
 simp only [Instr.checkKey,Gd,Uy Tryz.underlying5,Qc,u8,Ge]
theorem zvR (d:Nat) (x y:UInt8) (w:Wd):(Op.equalIn (d+1) 5 (u8 x) (u8 y)).run PG w = .ok (decide (x=y)) w:=by
 simp only [Op.equalIn,Gd,Uy Tryz.underlying5,Qc,u8,GA,Ge];have:decide ((x.toNat:Int)=(y.toNat:Int))=decide (x=y):=qT x y;rw [<- this];rfl
theorem zma:MapK PG 5 u8 where
 check:=fun q e w=>zu7 e 9999 q w
 eq:=fun q q' w=>zvR 9999 q q' w
 same:=fun q=>by simp [Instr.sameBits,u8]
 desc:=⟨_,Tryz.underlying5,fun q q'=>by
  right;simp only [Instr.sameNow,u8];have e:decide ((q.toNat:Int)=(q'.toNat:Int))=decide (q=q'):=qT q q';rw [<- e,GC trivial];rfl⟩
theorem KidsT.oneL {Q:Nat->Prop} {w:Wd} {t:Trm} {q:OA} {cap b:Nat} (hb:Q b) (hc:zq w ⟨b,0,none⟩ (ze t q cap)) (hn:t.name.length<=140737488351232) (hk:KidsT Q w q t.kids):KidsT Q w (some ⟨b,0,none⟩) [t]:=by
 refine .mk _ [t] (by show 1<=_;decide) b 0 (.inr rfl) (fun _=>q) (fun _=>cap) (fun i hi=>?_) (fun i hi=>?_)
 ·have hi:i<1:=hi;obtain rfl:i=0:=by omega
  exact⟨hn,hb,hc⟩
 ·have hi:i<1:=hi;obtain rfl:i=0:=by omega
  exact hk
section
variable {a b t:Trm} {qa qb q p:OA} {ca cb c cap L bx:Nat} {x:ExD} {w X Y:Wd}
theorem zpg {k:UInt8} (hg:GlobK w) (hK:KidsT jS w p t.kids) (hn:t.name.length<=140737488351232) (hE:ExH w bx x q c) (hv:ExV w x q) (hT:Tz64M w) :
  CB 20 #[u8 k,.agg (ze t p cap).toArray,At0 bx] w (.tuple #[.agg (zf (evR (.mk k [] [t]) [] x).1).toArray,i64 (evR (.mk k [] [t]) [] x).2]):=by
 refine zU 16 [u8 k,.agg (ze t p cap).toArray,At0 bx] (.c .p .p) Tryz.func20 ?_;obtain⟨L,hL⟩:=nm (w.heap.size);refine⟨Unit,fun _=>⟨[(0,u8 k),(2,At0 bx),(4,At0 L),(5,At0 (L+1)),(6,i64 0)],[]⟩,fun _ X=>X.heap[L]?=some (.cells (ze t p cap).toArray 24 (0,0))/\zG X (L+1) zn/\Bw w X,?_,?_⟩
 ·obtain⟨W1,e1⟩:=nm (w.alloc (.cells (ze t p cap).toArray 24));have n1:W1.heap.size=L+1:=by rw [e1,hL];exact wz _ _
  have f1:W1.heap[L]?=some (.cells (ze t p cap).toArray 24 (0,0)):=by rw [e1,hL];exact zt w _
  have b1:Bw w W1:=by rw [e1];exact zba _ _
  obtain⟨W2,e2⟩:=nm (W1.alloc (.cells (zf zn).toArray 30));have f2:zG W2 (L+1) zn:=by rw [e2,<- n1];exact zt W1 _
  have b2:Bw W1 W2:=by rw [e2];exact zba _ _
  have key:W2.heap[L]?=some (.cells (ze t p cap).toArray 24 (0,0))/\zG W2 (L+1) zn/\Bw w W2:=⟨zb b2 f1,f2,zst b1 b2⟩;rw [e2,e1] at key;rw [e1] at n1;exact⟨(),⟨.cons rfl (.cons rfl (.cons (by rw [hL];rfl) (.cons (Gw (fun n=>some (At0 n)) n1) (.cons rfl .nil)))),rfl⟩,key⟩
 rintro _ X ⟨f1,f2,hb⟩;refine⟨_,rfl,za f1,hlt f1,⟨by decide,by decide,rfl⟩,ze t p cap,rfl,?_⟩;obtain⟨V,e1⟩:=nm (X.alloc (.cells (ze t p cap).toArray 24));have bV:Bw X V:=by rw [e1];exact zba _ _
 have fV:V.heap[X.heap.size]?=some (.cells (ze t p cap).toArray 24 (0,0)):=by rw [e1];exact zt _ _
 rw [<- e1];have b2:=zst hb bV;refine⟨ze (.mk k [] [t]) (some ⟨X.heap.size,0,none⟩) 1,rfl,[.slice none 0 0],rfl,exC x q c,zH _ _ _,za (zb b2 hE),hlt (zb b2 hE),cmo (ziD (t := .mk k [] [t]) (ls:=[]) (cap:=0) (tc:=1) (hg.below b2) LinsM.none (by decide) (KidsT.oneL trivial (za fV) hn (hK.kept b2)) (by show 0<=_;decide) (hv.below b2) (hT.below b2)) ?_⟩;rintro e Y ⟨rfl,bY⟩;have b3:=zst b2 bY;exact zW (w:=w) (zb bY (zb bV f2)) (by omega) b3 fun Z fZ bZ=>⟨zf (evR (.mk k [] [t]) [] x).1,zd _,za fZ,rfl,bZ⟩
theorem LtB.cells (h:LtB w L a b qa qb ca cb x q c X) (hk:∀ (g:Nat) (cs:Array Value) (t:TypeId) (fr:Nat×Nat),X.heap[g]?=some (.cells cs t fr)->Y.heap[g]?=some (.cells cs t fr)) (hb:Bw w Y):LtB w L a b qa qb ca cb x q c Y :=
 ⟨hk _ _ _ _ h.A,hk _ _ _ _ h.B,hk _ _ _ _ h.E,h.ka.by fun g cs t fr _ hc=>(hk g cs t fr hc).trans hc.symm,h.kb.by fun g cs t fr _ hc=>(hk g cs t fr hc).trans hc.symm,hb⟩
theorem zlN (ka:KidsT jS w qa a.kids) (la:a.name.length<=140737488351232) (kb:KidsT jS w qb b.kids) (lb:b.name.length<=140737488351232) (hv0:SlR evE w q x.ev/\WX x) (hG:GlobA w) :
  CB 4 #[.agg (ze a qa ca).toArray,.agg (ze b qb cb).toArray,.agg (exC x q c).toArray] w (.bool true):=by
 refine zU 198 [.agg (ze a qa ca).toArray,.agg (ze b qb cb).toArray,.agg (exC x q c).toArray] (.c .p (.c (.s .p .p) (.c .p (.c .p (.c (.s .p .p) (.c (.s .p (.b (.l (.s .p (.s .p (.b (.c .p (.c .p (.c .p (.s .p .p)))))))))) (.s .p (.c .p (.c .p (.c .p (.c (.s .p .p) (.c .p (.c .p .p))))))))))))) Tryz.func4 ?_;have aw:∀ {X:Wd},Bw w X->Calls PG 11 #[] X fun e w'=>e = .returned (.bool true)/\Bw w w':=fun {X} b=>(zqk (hG.below b)).mono fun e Y h=>⟨h.1,zst b h.2⟩;obtain⟨L,hL⟩:=nm (w.heap.size);refine⟨Unit,fun _=>⟨[(3,At0 L),(4,At0 (L+1)),(5,At0 (L+2))],[]⟩,fun _ X=>LtB w L a b qa qb ca cb x q c X,?_,?_⟩
 ·obtain⟨h1,h2,h3⟩:=LtB.start (ca:=ca) (cb:=cb) (x:=x) (q:=q) (c:=c) ka kb;rw [<- hL] at h1 h2 h3;exact⟨(),⟨.cons (by rw [hL];rfl) (.cons (Gw (fun n=>some (At0 n)) h2) (.cons (Gw (fun n=>some (At0 n)) h3) .nil)),rfl⟩,h1⟩
 clear ka kb;rintro _ X hX;refine⟨Unit,fun _=>⟨[(3,At0 L),(4,At0 (L+1)),(5,At0 (L+2))],[]⟩,fun _ X=>LtB w L a b qa qb ca cb x q c X/\x.ev.length<=14,?_,?_⟩
 ·refine⟨_,rfl,za hX.A,hlt hX.A,cmo (zlZ 20 a qa ca X (by decide) hX.ka) ?_⟩;rintro e Y ⟨rfl,bY⟩;replace hX:=hX.below bY;clear bY X;refine biE (fun h=>?_) fun h1=>?_
  ·refine brT (brT (brT (brT (cmo (aw hX.bl) ?_))));rintro e Z ⟨rfl,bZ⟩;exact⟨rfl,bZ⟩
  have h1:zbt 20 a=true:=zed h1;refine⟨_,rfl,za hX.B,hlt hX.B,cmo (zlZ 20 b qb cb Y (by decide) hX.kb) ?_⟩;rintro e Z ⟨rfl,bY⟩;replace hX:=hX.below bY;clear bY Y;refine biE (fun h=>?_) fun h2=>?_
  ·refine brT (brT (brT (cmo (aw hX.bl) ?_)));rintro e Z ⟨rfl,bZ⟩;exact⟨rfl,bZ⟩
  have h2:zbt 20 b=true:=zed h2;refine⟨_,rfl,za hX.A,hlt hX.A,cmo (zgi a qa ca Z (by have:=zcS _ _ h1;omega) hX.ka) ?_⟩;rintro e Y ⟨rfl,bY⟩;replace hX:=hX.below bY;clear bY Z;refine biE (fun h=>?_) fun h3=>?_
  ·refine brT (brT (cmo (aw hX.bl) ?_));rintro e Z ⟨rfl,bZ⟩;exact⟨rfl,bZ⟩
  refine⟨_,rfl,za hX.B,hlt hX.B,cmo (zgi b qb cb Y (by have:=zcS _ _ h2;omega) hX.kb) ?_⟩;rintro e Z ⟨rfl,bY⟩;replace hX:=hX.below bY;clear bY Y;refine biE (fun h=>?_) fun h4=>?_
  ·refine brT (cmo (aw hX.bl) ?_);rintro e Z ⟨rfl,bZ⟩;exact⟨rfl,bZ⟩
  refine⟨_,j4 (za hX.E),biE (fun h=>?_) fun h5=>?_⟩
  ·refine cmo (aw hX.bl) ?_;rintro e Z ⟨rfl,bZ⟩;exact⟨rfl,bZ⟩
  have h5:¬ (14:Int)<(x.ev.length:Int):=dF h5;exact⟨(),(cvE rfl rfl),hX,by omega⟩
 clear hX X;rintro _ X ⟨hX,h14⟩;have hv:ExV w x q:=⟨hv0.1,by omega,hv0.2.po,hv0.2.rf,hv0.2.co,hv0.2.dt,hv0.2.ct,hv0.2.rm⟩;have hw:=hv0.2;clear hv0;have ev:∀ {t:Trm} {tq:OA} {tc:Nat} {V:Wd},Bw w V->KidsT jS V tq t.kids->t.name.length<=140737488351232 ->
   CB 12 #[.agg (ze t tq tc).toArray,.agg #[.slice none 0 0],.agg (exC x q c).toArray] V (.tuple #[.agg (zf (evR t [] x).1).toArray,i64 (evR t [] x).2]):=fun {t tq tc V} b hK hn =>
  ziD (ls:=[]) (hG.k.below b) LinsM.none (by decide) hK hn (hv.below b) (hG.e.t64.below b)
 obtain⟨R,hR⟩:=nm (evR a [] x);refine⟨Nat,fun b7=>⟨[(3,At0 L),(4,At0 (L+1)),(5,At0 (L+2)),(7,At0 b7),(8,i64 R.2)],[]⟩,fun b7 X=>LtB w L a b qa qb ca cb x q c X/\zG X b7 R.1,?_,?_⟩
 ·refine⟨_,rfl,za hX.A,hlt hX.A,[.slice none 0 0],rfl,exC x q c,zH _ _ _,za hX.E,hlt hX.E,cmo (ev hX.bl hX.ka la) ?_⟩;rintro e Y ⟨rfl,bY⟩;rw [<- hR];exact zl (X:=Y) (v := .agg (zf R.1).toArray) k30 (zd _) (by kernel_rfl) (zB _) fun Z hbZ fZ sZ=>⟨Y.heap.size,(cvE rfl rfl),(hX.below bY).below hbZ,fZ⟩
 clear hX X;rintro b7 X ⟨hX,f7⟩;obtain⟨S,hS⟩:=nm (evR b [] x);refine⟨Nat,fun b9=>⟨[(3,At0 L),(4,At0 (L+1)),(5,At0 (L+2)),(7,At0 b7),(8,i64 R.2),(9,At0 b9),(10,i64 S.2)],[]⟩,fun b9 X=>LtB w L a b qa qb ca cb x q c X/\zG X b7 R.1/\zG X b9 S.1,?_,?_⟩
 ·refine⟨_,rfl,za hX.B,hlt hX.B,[.slice none 0 0],rfl,exC x q c,zH _ _ _,za hX.E,hlt hX.E,cmo (ev hX.bl hX.kb lb) ?_⟩;rintro e Y ⟨rfl,bY⟩;rw [<- hS];exact zl (X:=Y) (v := .agg (zf S.1).toArray) k30 (zd _) (by kernel_rfl) (zB _) fun Z hbZ fZ sZ=>⟨Y.heap.size,(cvE rfl rfl),(hX.below bY).below hbZ,zb hbZ (zb bY f7),fZ⟩
 clear hX f7 X;rintro b9 X ⟨hX,f7,f9⟩;have two:∀ {t:Trm},(evR t [] x).2=0\/(evR t [] x).2=2:=fun {t}=>by
  unfold evR
  cases zax t [] x with
  | none=>exact .inr rfl
  | some r=>exact .inl rfl
 have hR2:R.2=0\/R.2=2:=by rw [hR];exact two
 have hS2:S.2=0\/S.2=2:=by rw [hS];exact two
 refine⟨Unit,fun _=>⟨[(3,At0 L),(4,At0 (L+1)),(5,At0 (L+2)),(7,At0 b7),(9,At0 b9)],[]⟩,fun _ Y=>X=Y/\R.2=0/\S.2=0,?_,?_⟩
 ·refine biE (fun h=>?_) fun h=>?_
  ·have h:(!decide (R.2=0))=true:=h;have h0:¬ R.2=0:=by simpa using h
   have h2:R.2=2:=by omega
   exact brT (Gs (fun _=>⟨rfl,hX.bl⟩) (fun h3=>GD h2 (dF h3)))
  ·have h:(!decide (R.2=0))=false:=h;have h0:R.2=0:=by simpa using h
   refine biE (fun h1=>?_) fun h1=>?_
   ·have h1:(!decide (S.2=0))=true:=h1;have h1:¬ S.2=0:=(by simpa using h1);refine biE (fun h3=>?_) fun _=>?_
    ·have h3:R.2=2:=dT h3;omega
    ·exact⟨rb (Ux (show S.2=2 by omega)),hX.bl⟩
   ·have h1:(!decide (S.2=0))=false:=h1;exact⟨(),(cvE rfl rfl),rfl,h0,by simpa using h1⟩
 rintro _ _ ⟨rfl,hR0,hS0⟩;have hea:zax a [] x=some R.1:=by rw [hR] at hR0 ⊢;exact zi9 hR0
 have heb:zax b [] x=some S.1:=by rw [hS] at hS0 ⊢;exact zi9 hS0
 have rA:=zfa hw hea;have rB:=zfa hw heb;have hright:zY x=true:=(zbV hea).2.1;refine⟨Unit,fun _=>⟨[(3,At0 L),(4,At0 (L+1)),(5,At0 (L+2)),(7,At0 b7)],[]⟩,fun _ X=>LtB w L a b qa qb ca cb x q c X/\zG X b7 R.1,?_,?_⟩
 ·refine⟨Value.map (some X.heap.size),X.alloc (.map #[] 0),rfl,?_⟩;have m0:MapF (key:=u8) (X.alloc (.map #[] 0)) X.heap.size (fun (_:UInt8)=>none):=MapF.new;have p0:Bw X (X.alloc (.map #[] 0)):=zba _ _;obtain⟨o1,r1,m1⟩:=qq zma Tryz.underlying54 m0 2 (.func (.func 15) #[] #[]);obtain⟨o2,r2,m2⟩:=qq zma Tryz.underlying54 m1 3 (.func (.func 16) #[] #[]);obtain⟨o3,r3,m3⟩:=qq zma Tryz.underlying54 m2 4 (.func (.func 17) #[] #[]);obtain⟨o4,r4,m4⟩:=qq zma Tryz.underlying54 m3 5 (.func (.func 18) #[] #[]);refine⟨_,_,r1,_,_,r2,_,_,r3,_,_,r4,?_⟩;have p4:=z8 (z8 (z8 (z8 p0 (Gh _) o1) (Gh _) o2) (Gh _) o3) (Gh _) o4;obtain⟨V4,hV4⟩:=nm (((((X.alloc (.map #[] 0)).putObj X.heap.size o1).putObj X.heap.size o2).putObj X.heap.size o3).putObj X.heap.size o4);rw [<- hV4] at m4 p4 ⊢;obtain⟨es,clock,hh,hf,n1,n2,hcl⟩:=m4;obtain⟨E,hE⟩:=nm ((es.map (entry u8)).toArray);rw [<- hE] at hh;obtain⟨mb,hmb⟩:=nm (X.heap.size);rw [<- hmb] at hh ⊢;refine⟨_,_,run_range_map V4 54 5 _ mb E clock Tryz.underlying54 hh,?_⟩;obtain⟨it,hit⟩:=nm (V4.heap.size);have hml:=hlt hh;have hXs:=p4.size;rw [<- hit];have hent:∀ e∈E.toList,∃ k v,e.key=u8 k/\e.val=v/\((k=2/\v = .func (.func 15) #[] #[])\/(k=3/\v = .func (.func 16) #[] #[])\/(k=4/\v = .func (.func 17) #[] #[])\/(k=5/\v = .func (.func 18) #[] #[])):=fun e he=>by
   rw [hE] at he;obtain⟨⟨k,v,bn⟩,hem,rfl⟩:=US.1 he;refine⟨k,v,rfl,rfl,?_⟩;have h1:=hf k;rw [zmS n1 hem] at h1;dsimp only at h1
   split at h1
   ·rename_i e;exact .inr (.inr (.inr ⟨e,Ui h1⟩))
   split at h1
   ·rename_i e;exact .inr (.inr (.inl ⟨e,Ui h1⟩))
   split at h1
   ·rename_i e;exact .inr (.inl ⟨e,Ui h1⟩)
   split at h1
   ·rename_i e;exact .inl ⟨e,Ui h1⟩
   ·cases h1
  have qe:∀ e∈E.toList,e.born<clock:=fun e he=>by
   rw [hE] at he;obtain⟨y,hem,rfl⟩:=US.1 he;exact hcl y hem
  have hborn:(E.toList.map (·.born)).Nodup:=by
   rw [hE];show ((es.map (entry u8)).map (·.born)).Nodup;rw [UP];exact n2
  have hitm:it≠mb:=by omega
  have bV5:=zba V4 (.mapIter (some mb) clock #[] clock);have hX5:LtB w L a b qa qb ca cb x q c (V4.alloc (.mapIter (some mb) clock #[] clock)):=hX.below (zst p4 bV5);refine⟨Array Nat×Nat,fun y=>⟨[(3,At0 L),(4,At0 (L+1)),(5,At0 (L+2)),(7,At0 b7),(9,At0 b9),(81,At0 it)],[]⟩,fun y X=>LtB w L a b qa qb ca cb x q c X/\zG X b7 R.1/\zG X b9 S.1/\X.heap[mb]?=some (.map E clock)/\X.heap[it]?=some (.mapIter (some mb) clock y.1 y.2)/\clock<=y.2,fun y=>(leftOf E y.1).size,(#[],clock),(cvE rfl rfl),⟨hX5,zb (zst p4 bV5) f7,zb (zst p4 bV5) f9,zb bV5 hh,by rw [hit];exact zt _ _,Gh _⟩,?_⟩;have hitw:w.heap.size<=it:=by have:=hX.bl.size;omega
  clear hX f7 f9 hX5 bV5 p4 p0 m0 m1 m2 m3 r1 r2 r3 r4 hh hml hXs hf n1 n2 hcl hit hmb hV4 V4 X;rintro⟨seen,c0⟩ X ⟨hX,f7,f9,hmb,hit,hc0⟩;dsimp only at hit hc0 ⊢;rcases run_next_at (P:=PG) X 0 it mb clock c0 seen E clock hit hmb qe hc0 with ⟨_,hrun⟩ | ⟨e,he,w1,hw1,hrun⟩
  ·exact⟨_,_,hrun,brF ⟨(),(cvE rfl rfl),hX,f7⟩⟩
  obtain⟨heE,_⟩:=mem_left he;have hsh:=left_shrinks E seen e he;obtain⟨X2,hX2⟩:=nm (ChangeMaps.setBlock w1 it (.mapIter (some mb) clock (seen.push e.born) clock));have hitl:=hlt hit;have w1h:w1.heap=X.heap:=by rcases hw1 with rfl | rfl <;> rfl
  have kI:X2.heap[it]?=some (.mapIter (some mb) clock (seen.push e.born) clock):=by
   rw [hX2];exact World.putObj_heap_same (by rw [w1h];exact hitl)
  have kO:∀ j,j≠it->X2.heap[j]?=X.heap[j]?:=fun j hj=>by
   rw [hX2];exact (World.putObj_heap_other hj).trans (by rw [w1h])
  have kC:∀ (g:Nat) (cs:Array Value) (t:TypeId) (fr:Nat×Nat),X.heap[g]?=some (.cells cs t fr)->X2.heap[g]?=some (.cells cs t fr):=fun g cs t fr hg=>(kO g fun e=>by rw [e,hit] at hg;cases hg).trans hg;have b2:Bw w X2:=by
   rw [hX2];refine z8 ?_ hitw _;rcases hw1 with rfl | rfl
   ·exact hX.bl
   ·exact hX.bl.drew
  have hL2:LtB w L a b qa qb ca cb x q c X2:=hX.cells kC b2;have g7:=kC _ _ _ _ f7;have g9:=kC _ _ _ _ f9;have gm:=(kO mb hitm.symm).trans hmb;refine⟨_,_,hrun,?_⟩;rw [<- hX2];refine brT ⟨UInt8×Value,fun y=>⟨[(3,At0 L),(4,At0 (L+1)),(5,At0 (L+2)),(7,At0 b7),(9,At0 b9),(11,u8 y.1),(12,y.2),(81,At0 it)],[]⟩,fun y Y=>X2=Y/\((y.1=2/\y.2 = .func (.func 15) #[] #[])\/(y.1=3/\y.2 = .func (.func 16) #[] #[])\/(y.1=4/\y.2 = .func (.func 17) #[] #[])\/(y.1=5/\y.2 = .func (.func 18) #[] #[])),?_,?_⟩
  ·refine⟨_,_,run_entry_at (P:=PG) X2 it mb clock seen E clock e kI gm heE hborn,?_⟩;obtain⟨k,v,hk,hvv,hcase⟩:=hent e heE;rw [hk,hvv];exact⟨(k,v),(cvE rfl rfl),rfl,hcase⟩
  clear hX f7 f9 hmb hit hitl w1h kO kC hX2 hw1 hrun w1 X;rintro⟨k,fv⟩ _ ⟨rfl,hcase⟩;dsimp only at hcase ⊢;have hk4:k=2\/k=3\/k=4\/k=5:=by
   rcases hcase with h | h | h | h
   ·exact .inl h.1
   ·exact .inr (.inl h.1)
   ·exact .inr (.inr (.inl h.1))
   ·exact .inr (.inr (.inr h.1))
  obtain⟨l0,l1⟩:=znn (k:=k) hw hk4 hea heb;obtain⟨W,hW⟩:=nm ((opR k R.1 S.1).1);refine⟨Nat,fun b13=>⟨[(3,At0 L),(4,At0 (L+1)),(5,At0 (L+2)),(7,At0 b7),(9,At0 b9),(11,u8 k),(13,At0 b13),(14,i64 0),(81,At0 it)],[]⟩,fun b13 Y=>LtB w L a b qa qb ca cb x q c Y/\zG Y b7 R.1/\zG Y b9 S.1/\Y.heap[mb]?=some (.map E clock)/\Y.heap[it]?=some (.mapIter (some mb) clock (seen.push e.born) clock)/\zG Y b13 W,?_,?_⟩
  ·rcases hcase with ⟨rfl,rfl⟩ | ⟨rfl,rfl⟩ | ⟨rfl,rfl⟩ | ⟨rfl,rfl⟩
   ·refine⟨zf R.1,zd _,za g7,hlt g7,zf S.1,zd _,za g9,hlt g9,cmo (zc4 rA.w rB.w) ?_⟩;rintro e Y ⟨rfl,bY⟩;have e2:(zX R.1 S.1).2=0:=l0;have e1:(zX R.1 S.1).1=W:=hW.symm;rw [e1,e2];refine zl (X:=Y) (v := .agg (zf W).toArray) k30 (zd _) (by kernel_rfl) (zB _) fun Z hbZ fZ sZ=>?_;have bZ:=zst bY hbZ;exact⟨Y.heap.size,(cvE rfl rfl),hL2.below bZ,zb bZ g7,zb bZ g9,zb bZ gm,zb bZ kI,fZ⟩
   ·refine⟨zf R.1,zd _,za g7,hlt g7,zf S.1,zd _,za g9,hlt g9,cmo (zqD rA.w rB.w) ?_⟩;rintro e Y ⟨rfl,bY⟩;have e2:(zaT R.1 S.1).2=0:=l0;have e1:(zaT R.1 S.1).1=W:=hW.symm;rw [e1,e2];refine zl (X:=Y) (v := .agg (zf W).toArray) k30 (zd _) (by kernel_rfl) (zB _) fun Z hbZ fZ sZ=>?_;have bZ:=zst bY hbZ;exact⟨Y.heap.size,(cvE rfl rfl),hL2.below bZ,zb bZ g7,zb bZ g9,zb bZ gm,zb bZ kI,fZ⟩
   ·refine⟨zf R.1,zd _,za g7,hlt g7,zf S.1,zd _,za g9,hlt g9,cmo (zqy rA.w rB.w) ?_⟩;rintro e Y ⟨rfl,bY⟩;have e2:(zaQ R.1 S.1).2=0:=l0;have e1:(zaQ R.1 S.1).1=W:=hW.symm;rw [e1,e2];refine zl (X:=Y) (v := .agg (zf W).toArray) k30 (zd _) (by kernel_rfl) (zB _) fun Z hbZ fZ sZ=>?_;have bZ:=zst bY hbZ;exact⟨Y.heap.size,(cvE rfl rfl),hL2.below bZ,zb bZ g7,zb bZ g9,zb bZ gm,zb bZ kI,fZ⟩
   ·refine⟨zf R.1,zd _,za g7,hlt g7,zf S.1,zd _,za g9,hlt g9,cmo (zhz rA.w rB.w (hG.e.t64.below b2)) ?_⟩;rintro e Y ⟨rfl,bY⟩;have e2:(zbq R.1 S.1).2=0:=l0;have e1:(zbq R.1 S.1).1=W:=hW.symm;rw [e1,e2];refine zl (X:=Y) (v := .agg (zf W).toArray) k30 (zd _) (by kernel_rfl) (zB _) fun Z hbZ fZ sZ=>?_;have bZ:=zst bY hbZ;exact⟨Y.heap.size,(cvE rfl rfl),hL2.below bZ,zb bZ g7,zb bZ g9,zb bZ gm,zb bZ kI,fZ⟩
  clear hL2 g7 g9 gm kI b2 hcase;rintro b13 X ⟨hX,f7,f9,hmb,hit,f13⟩;obtain⟨U,hU⟩:=nm (evR (.mk k [] [a,b]) [] x);refine⟨Nat,fun b15=>⟨[(3,At0 L),(4,At0 (L+1)),(5,At0 (L+2)),(7,At0 b7),(9,At0 b9),(13,At0 b13),(14,i64 0),(15,At0 b15),(16,i64 U.2),(81,At0 it)],[]⟩,fun b15 Y=>LtB w L a b qa qb ca cb x q c Y/\zG Y b7 R.1/\zG Y b9 S.1/\Y.heap[mb]?=some (.map E clock)/\Y.heap[it]?=some (.mapIter (some mb) clock (seen.push e.born) clock)/\zG Y b13 W/\zG Y b15 U.1,?_,?_⟩
  ·have bd:=(Gm X.heap.size X).drew;refine DrawE.treeQ [11] (.op 0 (.op 1 (.op 2 (.op 4 (.op 5 (.alt (.op 3 (.alt (.op 6 (.op 7 (.op 8 (.op 9 (.op 10 (.op 11 (.op 12 (.nil)))))))) (.op 10 (.op 6 (.op 7 (.op 8 (.op 9 (.op 11 (.op 12 (.nil)))))))))) (.op 10 (.op 3 (.op 6 (.op 7 (.op 8 (.op 9 (.op 11 (.op 12 (.nil))))))))))))))) (by kernel_rfl) ⟨_,rfl,za (hdr hX.A),hlt (hdr hX.A),_,rfl,za (hdr hX.B),hlt (hdr hX.B),[.slice none 0 0],rfl,exC x q c,zH _ _ _,za (hdr hX.E),hlt (hdr hX.E),Gs ?_ ?_⟩
   ·refine cmo (zb2 (k:=k) (hX.ka.kept bd) (hX.kb.kept bd) la lb) ?_;rintro e V1 ⟨r1,rfl,k1,v1⟩;refine⟨v1,?_⟩;have c1:=zst bd v1;refine Gs ?_ ?_
    ·refine cmo (ev (t := .mk k [] [a,b]) (tc:=2) (zst hX.bl c1) k1 (by show 0<=_;decide)) ?_;rintro e V2 ⟨rfl,v2⟩;rw [<- hU];refine⟨v2,?_⟩;have c2:=zst c1 v2;refine⟨zba _ _,?_⟩;have c3:Bw X (V2.alloc qF):=zst c2 (zba _ _);exact zW (w:=X) ((show zG (V2.alloc qF) V2.heap.size zn from zt V2 qF)) (c2.size) c3 fun Z fZ bZ=>⟨V2.heap.size,(cvE rfl rfl),hX.below bZ,zb bZ f7,zb bZ f9,zb bZ hmb,zb bZ hit,zb bZ f13,fZ⟩
    ·refine⟨zba _ _,?_⟩;have c4:Bw X (V1.alloc qF):=zst c1 (zba _ _);refine cmo (ev (t := .mk k [] [a,b]) (tc:=2) (zst hX.bl c4) (k1.kept (zba _ _)) (by show 0<=_;decide)) ?_;rintro e V5 ⟨rfl,v5⟩;rw [<- hU];refine⟨v5,?_⟩;have c5:=zst c4 v5;exact zW (w:=X) (zb v5 ((show zG (V1.alloc qF) V1.heap.size zn from zt V1 qF))) (c1.size) c5 fun Z fZ bZ=>⟨V1.heap.size,(cvE rfl rfl),hX.below bZ,zb bZ f7,zb bZ f9,zb bZ hmb,zb bZ hit,zb bZ f13,fZ⟩
   ·refine⟨zba _ _,?_⟩;have c6:Bw X (X.drew.alloc qF):=zst bd (zba _ _);refine cmo (zb2 (k:=k) (hX.ka.kept c6) (hX.kb.kept c6) la lb) ?_;rintro e V7 ⟨r7,rfl,k7,v7⟩;refine⟨v7,?_⟩;have c7:=zst c6 v7;refine cmo (ev (t := .mk k [] [a,b]) (tc:=2) (zst hX.bl c7) k7 (by show 0<=_;decide)) ?_;rintro e V8 ⟨rfl,v8⟩;rw [<- hU];refine⟨v8,?_⟩;have c8:=zst c7 v8;exact zW (w:=X) (zb v8 (zb v7 ((show zG (X.drew.alloc qF) X.drew.heap.size zn from zt X.drew qF)))) (bd.size) c8 fun Z fZ bZ=>⟨X.drew.heap.size,(cvE rfl rfl),hX.below bZ,zb bZ f7,zb bZ f9,zb bZ hmb,zb bZ hit,zb bZ f13,fZ⟩
  clear hX f7 f9 hmb hit f13 X;rintro b15 X ⟨hX,f7,f9,hmb,hit,f13,f15⟩;refine brN (show (!decide ((0:Int)=0))=false from rfl) (biE (fun h=>?_) fun h=>?_)
  ·have h:U.2=0:=dT h;refine⟨zf U.1,zd _,za f15,hlt f15,zf W,zd _,za f13,hlt f13,_,fun w=>zce _ _ U.1 W w,?_⟩;have hUW:U.1=W:=by
    rw [hW];refine l1 U.1 ?_;rw [hU] at h ⊢;exact zi9 h
   refine biE (fun h2=>?_) fun h2=>?_
   ·have h2:(!zaO U.1 W)=true:=h2;rw [hUW,zcL] at h2;exact GD h2 (by decide)
   ·exact⟨(seen.push e.born,clock),(cvE rfl rfl),⟨hX,f7,f9,hmb,hit,Gh _⟩,hsh⟩
  ·exact brF ⟨(seen.push e.born,clock),(cvE rfl rfl),⟨hX,f7,f9,hmb,hit,Gh _⟩,hsh⟩
 clear hX f7 f9 X;rintro _ X ⟨hX,f7⟩;obtain⟨B,hB⟩:=nm (evR (.mk 6 [] [a]) [] x);refine⟨Nat,fun b18=>⟨[(3,At0 L),(5,At0 (L+2)),(7,At0 b7),(17,.func (.func 20) #[] #[At0 (L+2)]),(18,At0 b18),(19,i64 B.2)],[]⟩,fun b18 X=>LtB w L a b qa qb ca cb x q c X/\zG X b7 R.1/\zG X b18 B.1,?_,?_⟩
 ·refine⟨_,rfl,za hX.A,hlt hX.A,cmo (zpg (k:=6) (hG.k.below hX.bl) hX.ka la hX.E (hv.below hX.bl) (hG.e.t64.below hX.bl)) ?_⟩;rintro e Y ⟨rfl,bY⟩;rw [<- hB];exact zl (X:=Y) (v := .agg (zf B.1).toArray) k30 (zd _) (by kernel_rfl) (zB _) fun Z hbZ fZ sZ=>⟨Y.heap.size,(cvE rfl rfl),(hX.below bY).below hbZ,zb hbZ (zb bY f7),fZ⟩
 clear hX f7  X;rintro b18 X ⟨hX,f7,f18⟩;obtain⟨P,hP⟩:=nm (evR (.mk 7 [] [a]) [] x);refine⟨Nat,fun b20=>⟨[(3,At0 L),(5,At0 (L+2)),(7,At0 b7),(17,.func (.func 20) #[] #[At0 (L+2)]),(18,At0 b18),(19,i64 B.2),(20,At0 b20),(21,i64 P.2)],[]⟩,fun b20 X=>LtB w L a b qa qb ca cb x q c X/\zG X b7 R.1/\zG X b18 B.1/\zG X b20 P.1,?_,?_⟩
 ·refine⟨_,rfl,za hX.A,hlt hX.A,cmo (zpg (k:=7) (hG.k.below hX.bl) hX.ka la hX.E (hv.below hX.bl) (hG.e.t64.below hX.bl)) ?_⟩;rintro e Y ⟨rfl,bY⟩;rw [<- hP];exact zl (X:=Y) (v := .agg (zf P.1).toArray) k30 (zd _) (by kernel_rfl) (zB _) fun Z hbZ fZ sZ=>⟨Y.heap.size,(cvE rfl rfl),(hX.below bY).below hbZ,zb hbZ (zb bY f7),zb hbZ (zb bY f18),fZ⟩
 clear hX f7 f18 X;rintro b20 X ⟨hX,f7,f18,f20⟩;obtain⟨Q,hQ⟩:=nm (evR (.mk 8 [] [a]) [] x);refine⟨Nat,fun b22=>⟨[(3,At0 L),(5,At0 (L+2)),(7,At0 b7),(17,.func (.func 20) #[] #[At0 (L+2)]),(18,At0 b18),(19,i64 B.2),(20,At0 b20),(21,i64 P.2),(22,At0 b22),(23,i64 Q.2)],[]⟩,fun b22 X=>LtB w L a b qa qb ca cb x q c X/\zG X b7 R.1/\zG X b18 B.1/\zG X b20 P.1/\zG X b22 Q.1,?_,?_⟩
 ·refine⟨_,rfl,za hX.A,hlt hX.A,cmo (zpg (k:=8) (hG.k.below hX.bl) hX.ka la hX.E (hv.below hX.bl) (hG.e.t64.below hX.bl)) ?_⟩;rintro e Y ⟨rfl,bY⟩;rw [<- hQ];exact zl (X:=Y) (v := .agg (zf Q.1).toArray) k30 (zd _) (by kernel_rfl) (zB _) fun Z hbZ fZ sZ=>⟨Y.heap.size,(cvE rfl rfl),(hX.below bY).below hbZ,zb hbZ (zb bY f7),zb hbZ (zb bY f18),zb hbZ (zb bY f20),fZ⟩
 clear hX f7 f18 f20 X;rintro b22 X ⟨hX,f7,f18,f20,f22⟩;have law:=fun {k:UInt8} (hk:k=6\/k=7\/k=8) (h:(evR (.mk k [] [a]) [] x).2=0)=>zno hk hea _ (zi9 h);have lB:B.2=0->zaO B.1 (qp R.1)=true:=fun h=>by rw [hB] at h ⊢;rw [law (.inl rfl) h];exact zcL _
 have lP:P.2=0->zaO P.1 (jl R.1)=true:=fun h=>by rw [hP] at h ⊢;rw [law (.inr (.inl rfl)) h];exact zcL _
 have lQ:Q.2=0->zaO Q.1 (za8 R.1)=true:=fun h=>by rw [hQ] at h ⊢;rw [law (.inr (.inr rfl)) h];exact zcL _
 refine⟨Unit,fun _=>⟨[(5,At0 (L+2))],[]⟩,fun _ X=>LtB w L a b qa qb ca cb x q c X,?_,?_⟩
 ·refine DrawE.ord [] (List.range 28) (by kernel_rfl) ?_;have bd:=(Gm X.heap.size X).drew;replace hX:=hX.below bd;replace f7:=zb bd f7;replace f18:=zb bd f18;replace f20:=zb bd f20;replace f22:=zb bd f22;clear bd;obtain⟨X0,hX0⟩:=nm (X.drew);rw [<- hX0] at hX f7 f18 f20 f22 ⊢;clear hX0;refine biE (fun h=>?_) fun h=>?_
  ·have h:B.2=0:=dT h;refine⟨zf B.1,zd _,za f18,hlt f18,zf R.1,zd _,za f7,hlt f7,cmo (zet rA.w (hG.e.t64.below hX.bl)) ?_⟩;rintro e Y1 ⟨rfl,bY,_⟩;refine⟨bY,?_⟩;replace hX:=hX.below bY;replace f7:=zb bY f7;replace f20:=zb bY f20;replace f22:=zb bY f22;clear bY;refine⟨_,fun w=>zce _ _ B.1 (qp R.1) w,?_⟩;rw [lB h];refine brF (biE (fun h=>?_) fun h=>?_)
   ·have h:P.2=0:=dT h;refine⟨zf P.1,zd _,za f20,hlt f20,zf R.1,zd _,za f7,hlt f7,cmo (zhB rA.w (hG.e.t64.below hX.bl)) ?_⟩;rintro e Y2 ⟨rfl,bY⟩;refine⟨bY,?_⟩;replace hX:=hX.below bY;replace f7:=zb bY f7;replace f22:=zb bY f22;clear bY;refine⟨_,fun w=>zce _ _ P.1 (jl R.1) w,?_⟩;rw [lP h];refine brF (biE (fun h=>?_) fun h=>?_)
    ·have h:Q.2=0:=dT h;refine⟨zf Q.1,zd _,za f22,hlt f22,zf R.1,zd _,za f7,hlt f7,cmo (zhA rA.w (hG.e.t64.below hX.bl)) ?_⟩;rintro e Y3 ⟨rfl,bY⟩;refine⟨bY,?_⟩;replace hX:=hX.below bY;clear bY;refine⟨_,fun w=>zce _ _ Q.1 (za8 R.1) w,?_⟩;rw [lQ h];exact brF ⟨(),(cvE rfl rfl),hX⟩
    ·exact brF ⟨(),(cvE rfl rfl),hX⟩
   ·refine brF (biE (fun h=>?_) fun h=>?_)
    ·have h:Q.2=0:=dT h;refine⟨zf Q.1,zd _,za f22,hlt f22,zf R.1,zd _,za f7,hlt f7,cmo (zhA rA.w (hG.e.t64.below hX.bl)) ?_⟩;rintro e Y4 ⟨rfl,bY⟩;refine⟨bY,?_⟩;replace hX:=hX.below bY;clear bY;refine⟨_,fun w=>zce _ _ Q.1 (za8 R.1) w,?_⟩;rw [lQ h];exact brF ⟨(),(cvE rfl rfl),hX⟩
    ·exact brF ⟨(),(cvE rfl rfl),hX⟩
  ·refine brF (biE (fun h=>?_) fun h=>?_)
   ·have h:P.2=0:=dT h;refine⟨zf P.1,zd _,za f20,hlt f20,zf R.1,zd _,za f7,hlt f7,cmo (zhB rA.w (hG.e.t64.below hX.bl)) ?_⟩;rintro e Y5 ⟨rfl,bY⟩;refine⟨bY,?_⟩;replace hX:=hX.below bY;replace f7:=zb bY f7;replace f22:=zb bY f22;clear bY;refine⟨_,fun w=>zce _ _ P.1 (jl R.1) w,?_⟩;rw [lP h];refine brF (biE (fun h=>?_) fun h=>?_)
    ·have h:Q.2=0:=dT h;refine⟨zf Q.1,zd _,za f22,hlt f22,zf R.1,zd _,za f7,hlt f7,cmo (zhA rA.w (hG.e.t64.below hX.bl)) ?_⟩;rintro e Y6 ⟨rfl,bY⟩;refine⟨bY,?_⟩;replace hX:=hX.below bY;clear bY;refine⟨_,fun w=>zce _ _ Q.1 (za8 R.1) w,?_⟩;rw [lQ h];exact brF ⟨(),(cvE rfl rfl),hX⟩
    ·exact brF ⟨(),(cvE rfl rfl),hX⟩
   ·refine brF (biE (fun h=>?_) fun h=>?_)
    ·have h:Q.2=0:=dT h;refine⟨zf Q.1,zd _,za f22,hlt f22,zf R.1,zd _,za f7,hlt f7,cmo (zhA rA.w (hG.e.t64.below hX.bl)) ?_⟩;rintro e Y7 ⟨rfl,bY⟩;refine⟨bY,?_⟩;replace hX:=hX.below bY;clear bY;refine⟨_,fun w=>zce _ _ Q.1 (za8 R.1) w,?_⟩;rw [lQ h];exact brF ⟨(),(cvE rfl rfl),hX⟩
    ·exact brF ⟨(),(cvE rfl rfl),hX⟩
 clear hX f7 f18 f20 f22 X;rintro _ X hX;obtain⟨ru,rv,pu,pv⟩:=zoY hw hright;obtain⟨U,hU⟩:=nm ((zX (qr x zar) (qr x zaq)).1);have eU:evR (.mk 2 [] [.mk 1 zar [],.mk 1 zaq []]) [] x=(U,0):=by rw [hU];exact zkx (zmG hright (.inl rfl))
 refine⟨Nat,fun b24=>⟨[(5,At0 (L+2)),(24,At0 b24)],[]⟩,fun b24 X=>LtB w L a b qa qb ca cb x q c X/\zG X b24 U,?_,?_⟩
 ·have bd:=(Gm X.heap.size X).drew;refine DrawE.treeQ [10] (.op 3 (.op 4 (.alt (.op 0 (.alt (.op 1 (.alt (.op 2 (.alt (.op 5 (.op 6 (.op 7 (.op 8 (.op 9 (.op 10 (.op 11 (.nil)))))))) (.op 9 (.op 5 (.op 6 (.op 7 (.op 8 (.op 10 (.op 11 (.nil)))))))))) (.op 9 (.op 2 (.op 5 (.op 6 (.op 7 (.op 8 (.op 10 (.op 11 (.nil))))))))))) (.op 9 (.op 1 (.op 2 (.op 5 (.op 6 (.op 7 (.op 8 (.op 10 (.op 11 (.nil)))))))))))) (.op 9 (.op 0 (.op 1 (.op 2 (.op 5 (.op 6 (.op 7 (.op 8 (.op 10 (.op 11 (.nil)))))))))))))) (by kernel_rfl) ⟨[.slice none 0 0],rfl,exC x q c,zH _ _ _,za (hdr hX.E),hlt (hdr hX.E),Gs ?_ ?_⟩
  ·refine cmo (zaB [101,120,116]) ?_;rintro e V1 ⟨rfl,v1⟩;refine⟨v1,?_⟩;have c1:=zst bd v1;refine Gs ?_ ?_
   ·refine cmo (zaB [105,110,116]) ?_;rintro e V2 ⟨rfl,v2⟩;refine⟨v2,?_⟩;have c2:=zst c1 v2;refine Gs ?_ ?_
    ·refine cmo (zb2 (k:=2) (a := .mk 1 zar []) (b := .mk 1 zaq []) .nil .nil (by decide) (by decide)) ?_;rintro e V3 ⟨r3,rfl,k3,v3⟩;refine⟨v3,?_⟩;have c3:=zst c2 v3;refine Gs ?_ ?_
     ·refine cmo (ev (t := .mk 2 [] [.mk 1 zar [],.mk 1 zaq []]) (tc:=2) (zst hX.bl c3) k3 (by show 0<=_;decide)) ?_;rintro e V4 ⟨rfl,v4⟩;rw [eU];refine⟨v4,?_⟩;have c4:=zst c3 v4;refine⟨zba _ _,?_⟩;have c5:Bw X (V4.alloc qF):=zst c4 (zba _ _);exact zW (w:=X) ((show zG (V4.alloc qF) V4.heap.size zn from zt V4 qF)) (c4.size) c5 fun Z fZ bZ=>⟨V4.heap.size,(cvE rfl rfl),hX.below bZ,fZ⟩
     ·refine⟨zba _ _,?_⟩;have c6:Bw X (V3.alloc qF):=zst c3 (zba _ _);refine cmo (ev (t := .mk 2 [] [.mk 1 zar [],.mk 1 zaq []]) (tc:=2) (zst hX.bl c6) (k3.kept (zba _ _)) (by show 0<=_;decide)) ?_;rintro e V7 ⟨rfl,v7⟩;rw [eU];refine⟨v7,?_⟩;have c7:=zst c6 v7;exact zW (w:=X) (zb v7 ((show zG (V3.alloc qF) V3.heap.size zn from zt V3 qF))) (c3.size) c7 fun Z fZ bZ=>⟨V3.heap.size,(cvE rfl rfl),hX.below bZ,fZ⟩
    ·refine⟨zba _ _,?_⟩;have c8:Bw X (V2.alloc qF):=zst c2 (zba _ _);refine cmo (zb2 (k:=2) (a := .mk 1 zar []) (b := .mk 1 zaq []) .nil .nil (by decide) (by decide)) ?_;rintro e V9 ⟨r9,rfl,k9,v9⟩;refine⟨v9,?_⟩;have c9:=zst c8 v9;refine cmo (ev (t := .mk 2 [] [.mk 1 zar [],.mk 1 zaq []]) (tc:=2) (zst hX.bl c9) k9 (by show 0<=_;decide)) ?_;rintro e V10 ⟨rfl,v10⟩;rw [eU];refine⟨v10,?_⟩;have c10:=zst c9 v10;exact zW (w:=X) (zb v10 (zb v9 ((show zG (V2.alloc qF) V2.heap.size zn from zt V2 qF)))) (c2.size) c10 fun Z fZ bZ=>⟨V2.heap.size,(cvE rfl rfl),hX.below bZ,fZ⟩
   ·refine⟨zba _ _,?_⟩;have c11:Bw X (V1.alloc qF):=zst c1 (zba _ _);refine cmo (zaB [105,110,116]) ?_;rintro e V12 ⟨rfl,v12⟩;refine⟨v12,?_⟩;have c12:=zst c11 v12;refine cmo (zb2 (k:=2) (a := .mk 1 zar []) (b := .mk 1 zaq []) .nil .nil (by decide) (by decide)) ?_;rintro e V13 ⟨r13,rfl,k13,v13⟩;refine⟨v13,?_⟩;have c13:=zst c12 v13;refine cmo (ev (t := .mk 2 [] [.mk 1 zar [],.mk 1 zaq []]) (tc:=2) (zst hX.bl c13) k13 (by show 0<=_;decide)) ?_;rintro e V14 ⟨rfl,v14⟩;rw [eU];refine⟨v14,?_⟩;have c14:=zst c13 v14;exact zW (w:=X) (zb v14 (zb v13 (zb v12 ((show zG (V1.alloc qF) V1.heap.size zn from zt V1 qF))))) (c1.size) c14 fun Z fZ bZ=>⟨V1.heap.size,(cvE rfl rfl),hX.below bZ,fZ⟩
  ·refine⟨zba _ _,?_⟩;have c15:Bw X (X.drew.alloc qF):=zst bd (zba _ _);refine cmo (zaB [101,120,116]) ?_;rintro e V16 ⟨rfl,v16⟩;refine⟨v16,?_⟩;have c16:=zst c15 v16;refine cmo (zaB [105,110,116]) ?_;rintro e V17 ⟨rfl,v17⟩;refine⟨v17,?_⟩;have c17:=zst c16 v17;refine cmo (zb2 (k:=2) (a := .mk 1 zar []) (b := .mk 1 zaq []) .nil .nil (by decide) (by decide)) ?_;rintro e V18 ⟨r18,rfl,k18,v18⟩;refine⟨v18,?_⟩;have c18:=zst c17 v18;refine cmo (ev (t := .mk 2 [] [.mk 1 zar [],.mk 1 zaq []]) (tc:=2) (zst hX.bl c18) k18 (by show 0<=_;decide)) ?_;rintro e V19 ⟨rfl,v19⟩;rw [eU];refine⟨v19,?_⟩;have c19:=zst c18 v19;exact zW (w:=X) (zb v19 (zb v18 (zb v17 (zb v16 ((show zG (X.drew.alloc qF) X.drew.heap.size zn from zt X.drew qF)))))) (bd.size) c19 fun Z fZ bZ=>⟨X.drew.heap.size,(cvE rfl rfl),hX.below bZ,fZ⟩
 clear hX  X;rintro b24 X ⟨hX,f24⟩;obtain⟨V,hV⟩:=nm ((zaT (qr x zar) (qr x zaq)).1);have eV:evR (.mk 3 [] [.mk 1 zar [],.mk 1 zaq []]) [] x=(V,0):=by rw [hV];exact zkx (zmG hright (.inr rfl))
 refine⟨Nat,fun b26=>⟨[(5,At0 (L+2)),(24,At0 b24),(26,At0 b26)],[]⟩,fun b26 X=>LtB w L a b qa qb ca cb x q c X/\zG X b24 U/\zG X b26 V,?_,?_⟩
 ·have bd:=(Gm X.heap.size X).drew;refine DrawE.treeQ [10] (.op 3 (.op 4 (.alt (.op 0 (.alt (.op 1 (.alt (.op 2 (.alt (.op 5 (.op 6 (.op 7 (.op 8 (.op 9 (.op 10 (.op 11 (.nil)))))))) (.op 9 (.op 5 (.op 6 (.op 7 (.op 8 (.op 10 (.op 11 (.nil)))))))))) (.op 9 (.op 2 (.op 5 (.op 6 (.op 7 (.op 8 (.op 10 (.op 11 (.nil))))))))))) (.op 9 (.op 1 (.op 2 (.op 5 (.op 6 (.op 7 (.op 8 (.op 10 (.op 11 (.nil)))))))))))) (.op 9 (.op 0 (.op 1 (.op 2 (.op 5 (.op 6 (.op 7 (.op 8 (.op 10 (.op 11 (.nil)))))))))))))) (by kernel_rfl) ⟨[.slice none 0 0],rfl,exC x q c,zH _ _ _,za (hdr hX.E),hlt (hdr hX.E),Gs ?_ ?_⟩
  ·refine cmo (zaB [101,120,116]) ?_;rintro e V1 ⟨rfl,v1⟩;refine⟨v1,?_⟩;have c1:=zst bd v1;refine Gs ?_ ?_
   ·refine cmo (zaB [105,110,116]) ?_;rintro e V2 ⟨rfl,v2⟩;refine⟨v2,?_⟩;have c2:=zst c1 v2;refine Gs ?_ ?_
    ·refine cmo (zb2 (k:=3) (a := .mk 1 zar []) (b := .mk 1 zaq []) .nil .nil (by decide) (by decide)) ?_;rintro e V3 ⟨r3,rfl,k3,v3⟩;refine⟨v3,?_⟩;have c3:=zst c2 v3;refine Gs ?_ ?_
     ·refine cmo (ev (t := .mk 3 [] [.mk 1 zar [],.mk 1 zaq []]) (tc:=2) (zst hX.bl c3) k3 (by show 0<=_;decide)) ?_;rintro e V4 ⟨rfl,v4⟩;rw [eV];refine⟨v4,?_⟩;have c4:=zst c3 v4;refine⟨zba _ _,?_⟩;have c5:Bw X (V4.alloc qF):=zst c4 (zba _ _);exact zW (w:=X) ((show zG (V4.alloc qF) V4.heap.size zn from zt V4 qF)) (c4.size) c5 fun Z fZ bZ=>⟨V4.heap.size,(cvE rfl rfl),hX.below bZ,zb bZ f24,fZ⟩
     ·refine⟨zba _ _,?_⟩;have c6:Bw X (V3.alloc qF):=zst c3 (zba _ _);refine cmo (ev (t := .mk 3 [] [.mk 1 zar [],.mk 1 zaq []]) (tc:=2) (zst hX.bl c6) (k3.kept (zba _ _)) (by show 0<=_;decide)) ?_;rintro e V7 ⟨rfl,v7⟩;rw [eV];refine⟨v7,?_⟩;have c7:=zst c6 v7;exact zW (w:=X) (zb v7 ((show zG (V3.alloc qF) V3.heap.size zn from zt V3 qF))) (c3.size) c7 fun Z fZ bZ=>⟨V3.heap.size,(cvE rfl rfl),hX.below bZ,zb bZ f24,fZ⟩
    ·refine⟨zba _ _,?_⟩;have c8:Bw X (V2.alloc qF):=zst c2 (zba _ _);refine cmo (zb2 (k:=3) (a := .mk 1 zar []) (b := .mk 1 zaq []) .nil .nil (by decide) (by decide)) ?_;rintro e V9 ⟨r9,rfl,k9,v9⟩;refine⟨v9,?_⟩;have c9:=zst c8 v9;refine cmo (ev (t := .mk 3 [] [.mk 1 zar [],.mk 1 zaq []]) (tc:=2) (zst hX.bl c9) k9 (by show 0<=_;decide)) ?_;rintro e V10 ⟨rfl,v10⟩;rw [eV];refine⟨v10,?_⟩;have c10:=zst c9 v10;exact zW (w:=X) (zb v10 (zb v9 ((show zG (V2.alloc qF) V2.heap.size zn from zt V2 qF)))) (c2.size) c10 fun Z fZ bZ=>⟨V2.heap.size,(cvE rfl rfl),hX.below bZ,zb bZ f24,fZ⟩
   ·refine⟨zba _ _,?_⟩;have c11:Bw X (V1.alloc qF):=zst c1 (zba _ _);refine cmo (zaB [105,110,116]) ?_;rintro e V12 ⟨rfl,v12⟩;refine⟨v12,?_⟩;have c12:=zst c11 v12;refine cmo (zb2 (k:=3) (a := .mk 1 zar []) (b := .mk 1 zaq []) .nil .nil (by decide) (by decide)) ?_;rintro e V13 ⟨r13,rfl,k13,v13⟩;refine⟨v13,?_⟩;have c13:=zst c12 v13;refine cmo (ev (t := .mk 3 [] [.mk 1 zar [],.mk 1 zaq []]) (tc:=2) (zst hX.bl c13) k13 (by show 0<=_;decide)) ?_;rintro e V14 ⟨rfl,v14⟩;rw [eV];refine⟨v14,?_⟩;have c14:=zst c13 v14;exact zW (w:=X) (zb v14 (zb v13 (zb v12 ((show zG (V1.alloc qF) V1.heap.size zn from zt V1 qF))))) (c1.size) c14 fun Z fZ bZ=>⟨V1.heap.size,(cvE rfl rfl),hX.below bZ,zb bZ f24,fZ⟩
  ·refine⟨zba _ _,?_⟩;have c15:Bw X (X.drew.alloc qF):=zst bd (zba _ _);refine cmo (zaB [101,120,116]) ?_;rintro e V16 ⟨rfl,v16⟩;refine⟨v16,?_⟩;have c16:=zst c15 v16;refine cmo (zaB [105,110,116]) ?_;rintro e V17 ⟨rfl,v17⟩;refine⟨v17,?_⟩;have c17:=zst c16 v17;refine cmo (zb2 (k:=3) (a := .mk 1 zar []) (b := .mk 1 zaq []) .nil .nil (by decide) (by decide)) ?_;rintro e V18 ⟨r18,rfl,k18,v18⟩;refine⟨v18,?_⟩;have c18:=zst c17 v18;refine cmo (ev (t := .mk 3 [] [.mk 1 zar [],.mk 1 zaq []]) (tc:=2) (zst hX.bl c18) k18 (by show 0<=_;decide)) ?_;rintro e V19 ⟨rfl,v19⟩;rw [eV];refine⟨v19,?_⟩;have c19:=zst c18 v19;exact zW (w:=X) (zb v19 (zb v18 (zb v17 (zb v16 ((show zG (X.drew.alloc qF) X.drew.heap.size zn from zt X.drew qF)))))) (bd.size) c19 fun Z fZ bZ=>⟨X.drew.heap.size,(cvE rfl rfl),hX.below bZ,zb bZ f24,fZ⟩
 clear hX f24 X;rintro b26 X ⟨hX,f24,f26⟩;rw [<- hU] at ru pu;rw [<- hV] at rv pv;refine DrawE.ord [] [0,3,4,5,6,7,8,9,1,2,10,11,12,13,14,15,16,17,18] (by kernel_rfl) ?_;have bd:=(Gm X.heap.size X).drew;replace hX:=hX.below bd;replace f24:=zb bd f24;replace f26:=zb bd f26;clear bd;obtain⟨X0,hX0⟩:=nm (X.drew);rw [<- hX0] at hX f24 f26 ⊢;clear hX0;refine⟨zf U,zd _,za f24,hlt f24,_,j4 (za hX.E),_,j4 (za hX.E),?_⟩;have hnn:x.ev.length*x.ev.length<=14*14:=Uv h14 h14;refine⟨((x.ev.length*x.ev.length:Nat):Int),?_,?_⟩
 ·rw [show (x.ev.length:Int)*(x.ev.length:Int)=((x.ev.length*x.ev.length:Nat):Int) from (QM _ _).symm];exact zi (by omega)
 refine cmo (zsi ru.w (hG.e.t64.below hX.bl)) ?_;rintro e Y ⟨⟨pq,pc,rfl,_⟩,bY⟩;refine⟨bY,?_⟩;replace hX:=hX.below bY;replace f26:=zb bY f26;clear bY;refine biE (fun _=>?_) fun h=>?_
 ·refine⟨zf V,zd _,za f26,hlt f26,cmo (zmY rv.w) ?_⟩;rintro e Z ⟨rfl,bY⟩;refine⟨bY,?_⟩;replace hX:=hX.below bY;rw [pv];refine brT (cmo (zqk (hG.below hX.bl)) ?_);rintro e T ⟨rfl,bT⟩;exact⟨bT,rfl,zst hX.bl bT⟩
 ·have h:¬ ((j9 U).length:Int)=((x.ev.length*x.ev.length:Nat):Int):=dF h;exact GD (by rw [pu]) h
end
end Go.Proofs.YtnadlhpkpnfmbaaGreatDoor
namespace Go.Proofs.YtnadlhpkpnfmbaaGreatDoor
open Go.Vc Go.RowKit Go.Sei
open Go.ChangeShapes Go.WideShapes Go.ChangeAt
section
variable {H:Type} {enc:TypeId×Value->H} {P:Program} {w:Wd} {base:Nat} {spare:Nat->Bool} {held:Bool} {fuel:Nat} {t:TypeId} {cs:List Value} {x:DataW H×List MemPlace}
theorem zmq (ht:P.underlying t=some (.int .u8)) (h:DataW.trod enc P w base spare held fuel t cs=some x):∃ b:UInt8,cs=[u8 b]/\x.1 = .lit (.int .u8 b.toNat):=by
 obtain⟨n,rfl,rfl,hw⟩:=Uo ht h;have hb:=bounds_u8 hw;have e:((UInt8.ofNat n.toNat).toNat:Int)=n:=by
  rw [KJ];omega
 exact⟨UInt8.ofNat n.toNat,by rw [u8,e],by rw [e]⟩
theorem zeN {n:Nat} {e:TypeId} (ht:P.underlying t=some (.array n e)) (he:P.underlying e=some (.int .u8)) (hc:P.cellsOf e=1) (hn:P.cellsOf t=n)
  (h:DataW.trod enc P w base spare held fuel t cs=some x):∃ bs:List UInt8,bs.length=n/\cs=bs.map u8/\x.1 = .agg (bs.map fun b => .lit (.int .u8 b.toNat)):=by
 obtain⟨xs,m,rfl,rfl,hl,hx,hel⟩:=DataW.trod_array ht h;rw [hn] at hl;have each:∀ i (h:i<n),∃ b:UInt8,cs[i]?=some (u8 b)/\xs[i]?.map (·.1)=some (.lit (.int .u8 b.toNat)):=fun i hi=>by
  have h1:=hel i hi;rw [hc,gE (by omega)] at h1;obtain⟨b,h2,h3⟩:=zmq he h1;refine⟨b,?_,by rw [gE (by omega),Uh,h3]⟩;have:((cs.drop (i*1)).take 1)[0]?=some (u8 b):=by rw [h2];rfl
  simpa using this
 have:∀ k,k<=n->∃ bs:List UInt8,bs.length=k/\cs.take k=bs.map u8/\(xs.take k).map (·.1)=bs.map fun b => .lit (.int .u8 b.toNat):=by
  intro k
  induction k with
  | zero=>exact fun _=>⟨[],rfl,by simp,by simp⟩
  | succ k ih =>
   intro hk;obtain⟨bs,h1,h2,h3⟩:=ih (by omega);obtain⟨b,h4,h5⟩:=each k (by omega);have hk1:k<cs.length:=by omega
   have hk2:k<xs.length:=by omega
   rw [gE hk1] at h4;rw [gE hk2] at h5;refine⟨bs++[b],by simp [h1],?_,?_⟩
   ·rw [tsg hk1,h2,Ui h4];simp
   ·rw [tsg hk2,QV,h3];simp at h5;simp [h5]
 obtain⟨bs,h1,h2,h3⟩:=this n (Gh _);rw [JE (by omega)] at h2 h3;exact⟨bs,h1,h2,by rw [<- h3]⟩
theorem zta (ht:P.underlying t=some (.int .i64)) (h:DataW.trod enc P w base spare held fuel t cs=some x):∃ b:Int,cs=[i64 b]/\x.1 = .lit (.int .i64 b):=by
 obtain⟨n,rfl,rfl,_⟩:=Uo ht h;exact⟨n,rfl,rfl⟩
theorem zmr {n:Nat} {e:TypeId} (ht:P.underlying t=some (.array n e)) (he:P.underlying e=some (.int .i64)) (hc:P.cellsOf e=1) (hn:P.cellsOf t=n)
  (h:DataW.trod enc P w base spare held fuel t cs=some x):∃ bs:List Int,bs.length=n/\cs=bs.map i64/\x.1 = .agg (bs.map fun b => .lit (.int .i64 b)):=by
 obtain⟨xs,m,rfl,rfl,hl,hx,hel⟩:=DataW.trod_array ht h;rw [hn] at hl;have each:∀ i (h:i<n),∃ b:Int,cs[i]?=some (i64 b)/\xs[i]?.map (·.1)=some (.lit (.int .i64 b)):=fun i hi=>by
  have h1:=hel i hi;rw [hc,gE (by omega)] at h1;obtain⟨b,h2,h3⟩:=zta he h1;refine⟨b,?_,by rw [gE (by omega),Uh,h3]⟩;have:((cs.drop (i*1)).take 1)[0]?=some (i64 b):=by rw [h2];rfl
  simpa using this
 have:∀ k,k<=n->∃ bs:List Int,bs.length=k/\cs.take k=bs.map i64/\(xs.take k).map (·.1)=bs.map fun b => .lit (.int .i64 b):=by
  intro k
  induction k with
  | zero=>exact fun _=>⟨[],rfl,by simp,by simp⟩
  | succ k ih =>
   intro hk;obtain⟨bs,h1,h2,h3⟩:=ih (by omega);obtain⟨b,h4,h5⟩:=each k (by omega);have hk1:k<cs.length:=by omega
   have hk2:k<xs.length:=by omega
   rw [gE hk1] at h4;rw [gE hk2] at h5;refine⟨bs++[b],by simp [h1],?_,?_⟩
   ·rw [tsg hk1,h2,Ui h4];simp
   ·rw [tsg hk2,QV,h3];simp at h5;simp [h5]
 obtain⟨bs,h1,h2,h3⟩:=this n (Gh _);rw [JE (by omega)] at h2 h3;exact⟨bs,h1,h2,by rw [<- h3]⟩
end
theorem zcY:Tryz.prog.cellsOf 5=1:=by kernel_rfl
theorem zhy (b o i:Nat):(⟨b,o,none⟩:Addr).add i=⟨b,o+i,none⟩:=by
 unfold Addr.add;by_cases h:i=0
 ·simp [h]
 ·simp [h]
section
variable {w:Wd} {base:Nat} {cs:List Value}
theorem zff {a:Addr} {n:Nat} (hn:0<n) (h:w.cells? base a n=some cs):a.spot=none/\a.block<w.heap.size/\zq w ⟨a.block,a.off,none⟩ cs:=by
 obtain⟨_,hl,hc⟩:=World.cells?_some h;have h0:=hc 0 hn;rw [gE (by omega)] at h0;have hs:a.spot=none:=by simpa [Addr.add] using World.cell?_spot h0
 obtain⟨b,o,s⟩:=a;dsimp only at hs;subst hs;refine⟨rfl,Jy _ _ h0,qM fun i v hv=>?_⟩;have hi:i<n:=by have:=(Jq.1 hv).1;omega
 have:=(hc i hi).trans hv;rw [zhy] at this;exact this
end
theorem zoS:ownKnob Tryz.prog.godebug=none:=by kernel_rfl
theorem zcI:laidOutB PG=true:=by kernel_rfl
section
variable {H:Type} {enc:TypeId×Value->H} {P:Program} {w:Wd} {base:Nat} {spare:Nat->Bool} {held:Bool} {fuel:Nat} {t e:TypeId} {cs:List Value} {x:DataW H×List MemPlace}
def Opens (enc:TypeId×Value->H) (P:Program) (w:Wd) (base:Nat) (spare:Nat->Bool) (held:Bool) (t:TypeId) (R:List Value->Prop):Prop :=
 ∀ fuel cs x,DataW.trod enc P w base spare held fuel t cs=some x->R cs
theorem Opens.field {fs:Array Field} {R:List Value->Prop} {i:Nat} {f:Field} {n:Nat} {xs:List (DataW H×List MemPlace)} {m:Nat} (hel:∀ (i:Nat) (f:Field),fs[i]?=some f->DataW.trod enc P w base spare held m f.type ((cs.drop f.offset).take (P.cellsOf f.type))=xs[i]?)
  (hl:xs.length=fs.size) (hi:fs[i]?=some f) {o:Nat} (hoo:f.offset=o) (hn:P.cellsOf f.type=n) (ho:Opens enc P w base spare held f.type R):R ((cs.drop o).take n):=by
 subst hoo;have h1:=hel i f hi;have:i<fs.size:=(Jk.1 hi).1;rw [gE (by omega),hn] at h1;exact ho _ _ _ h1
theorem zbR (ht:P.underlying t=some (.int .u8)):Opens enc P w base spare held t fun cs=>∃ b:UInt8,cs=[u8 b]:=fun fuel cs x h=>by
 obtain⟨b,h,_⟩:=zmq ht h;exact⟨b,h⟩
theorem zh9 (ht:P.underlying t=some (.int .i64)):Opens enc P w base spare held t fun cs=>∃ b:Int,cs=[.int .i64 b]:=fun fuel cs x h=>by
 obtain⟨n,h,_,_⟩:=Uo ht h;exact⟨n,h⟩
theorem znA (ht:P.underlying t=some (.int .u64)):Opens enc P w base spare held t fun cs=>∃ n:Nat,n<18446744073709551616/\cs=[.int .u64 (n:Int)]:=fun fuel cs x h=>by
 obtain⟨n,rfl,_,hw⟩:=Uo ht h;have hb:0<=n/\n<=18446744073709551615:=by
  simp only [Lit.wf,dE,bAT] at hw
  first
   | exact⟨by simpa [IntKind.min,IntKind.signed,IntKind.bits] using hw.1,by simpa [IntKind.max,IntKind.signed,IntKind.bits] using hw.2⟩
   | (simp [IntKind.min,IntKind.max,IntKind.signed,IntKind.bits] at hw;omega)
 exact⟨n.toNat,by omega,by congr 2;omega⟩
theorem zh8 {n:Nat} (ht:P.underlying t=some (.array n e)) (he:P.underlying e=some (.int .u8)) (hc:P.cellsOf e=1) (hn:P.cellsOf t=n):Opens enc P w base spare held t fun cs=>∃ bs:List UInt8,bs.length=n/\cs=bs.map u8:=fun fuel cs x h=>by
 obtain⟨bs,h1,h2,_⟩:=zeN ht he hc hn h;exact⟨bs,h1,h2⟩
theorem zi2 {β:Type} {n:Nat} (i0:β) {Q:Nat->β->Prop} (h:∀ i,i<n->∃ b,Q i b):∃ bs:List β,bs.length=n/\∀ i (hi:i<bs.length),Q i bs[i]:=by
 have h2:∀ i,∃ b,i<n->Q i b:=fun i=>by
  by_cases hi:i<n
  ·obtain⟨b,hb⟩:=h i hi;exact⟨b,fun _=>hb⟩
  ·exact⟨i0,fun h=>GD h hi⟩
 obtain⟨g,hg⟩:=Classical.axiomOfChoice h2;refine⟨(List.range n).map g,by simp,fun i hi=>?_⟩;simp only [Qs,KA];exact hg i (by simpa using hi)
theorem zmD {β:Type} {f:β->List Value} {sz:Nat}:∀ (bs:List β) (cs:List Value),cs.length=bs.length*sz->(∀ i (h:i<bs.length),(cs.drop (i*sz)).take sz=f bs[i])->cs=bs.flatMap f
 | [],cs,hl,_=>by simpa using hl
 | b::r,cs,hl,h=>by
  have h0:=h 0 (by simp);simp only [Gc,Ur,List.getElem_cons_zero] at h0;rw [KU,<- h0]
  conv=>lhs;rw [<- JQ sz cs]
  congr 1;refine zmD (sz:=sz) r (cs.drop sz) (by rw [Qv,hl,Qu,Gg];omega) fun i hi=>?_;have h1:=h (i+1) (by simpa using hi);rw [Up];simpa [Gg,UT] using h1
theorem zia {β:Type} (i0:β) {f:β->List Value} {Q:β->Prop} {n sz:Nat} (ht:P.underlying t=some (.array n e)) (hc:P.cellsOf e=sz) (hn:P.cellsOf t=n*sz) (ho:Opens enc P w base spare held e fun cs=>∃ b,Q b/\cs=f b) :
  Opens enc P w base spare held t fun cs=>∃ bs:List β,bs.length=n/\(∀ b∈bs,Q b)/\cs=bs.flatMap f:=fun fuel cs x h=>by
 obtain⟨xs,m,rfl,rfl,hl,hx,hel⟩:=DataW.trod_array ht h;rw [hn] at hl;have each:∀ i,i<n->∃ b:β,Q b/\(cs.drop (i*sz)).take sz=f b:=fun i hi=>by
  have h1:=hel i hi;rw [hc,gE (by omega)] at h1;exact ho _ _ _ h1
 obtain⟨bs,h1,h2⟩:=zi2 i0 each;refine⟨bs,h1,fun b hb=>?_,zmD bs cs (by rw [hl,h1]) fun i hi=>(h2 i hi).2⟩;obtain⟨i,hi,rfl⟩:=Ki hb;exact (h2 i hi).1
theorem zpe {β:Type} (i0:β) {f:β->List Value} {Q:β->Prop} {sz:Nat} (hp:0<sz) (ht:P.underlying t=some (.slice e)) (hc:P.cellsOf e=sz) (ho:Opens enc P w base spare held e fun cs=>∃ b,Q b/\cs=f b) :
  Opens enc P w base spare held t fun cs=>∃ (p:OA) (cap:Nat) (l:List β),cs=[.slice p l.length cap]/\l.length<=9223372036854775807/\(p=none->cap=0)/\(∀ b∈l,Q b)/\∃ b o,(l.length=0\/p=some ⟨b,o,none⟩)/\∀ i (hi:i<l.length),b<w.heap.size/\zq w ⟨b,o+i*sz,none⟩ (f l[i]):=fun fuel cs x h=>by
 rcases DataW.trod_slice ht h with ⟨rfl,_⟩ | ⟨a,len,cap,elems,qI,n,_,rfl,_,_,hlc,hcm,hlen,hel,_,_⟩
 ·exact⟨none,0,[],rfl,by simp,fun _=>rfl,by simp,0,0,.inl rfl,fun i hi=>by simp at hi⟩
 ·have each:∀ i,i<len->∃ m:β,Q m/\(a.add (i*sz)).spot=none/\(a.add (i*sz)).block<w.heap.size/\zq w ⟨(a.add (i*sz)).block,(a.add (i*sz)).off,none⟩ (f m):=fun i hi=>by
   have h1:=hel i hi;rw [hc,gE (by omega),Option.bind_eq_some_iff] at h1;obtain⟨cs,h2,h3⟩:=h1;obtain⟨m,hq,rfl⟩:=ho _ _ _ h3;exact⟨m,hq,zff hp h2⟩
  obtain⟨l,h1,h2⟩:=zi2 i0 each;have hm:maxLen=9223372036854775807:=rfl;refine⟨some a,cap,l,by rw [h1],by omega,(fun h=>by cases h),fun b hb=>?_,a.block,a.off,?_,fun i hi=>?_⟩
  ·obtain⟨i,hi,rfl⟩:=Ki hb;exact (h2 i hi).1
  ·by_cases h00:l.length=0
   ·exact .inl h00
   ·right;have hsp:a.spot=none:=by
     have:=(h2 0 (by omega)).2.1;simpa [Addr.add] using this
    obtain⟨b,o,s⟩:=a;dsimp only at hsp;subst hsp;rfl
  ·have hsp:a.spot=none:=by
    have:=(h2 0 (by omega)).2.1;simpa [Addr.add] using this
   obtain⟨b,o,s⟩:=a;dsimp only at hsp;subst hsp;have:=(h2 i hi).2.2;rw [zhy] at this;exact this
theorem cut (cs:List Value) (o n o':Nat) (h:o+n=o'):cs.drop o=(cs.drop o).take n++cs.drop o':=by
 rw [<- h,<- Up,JQ]
end
theorem cC (t n:Nat) (h:Tryz.prog.cellsOf t=n):Tryz.prog.cellsOf t=n:=h
theorem zeG {H:Type} {enc:TypeId×Value->H} {a:Assume} {C:Checked} {os:Os} {f:FuncId} {fn:Func} {s:ChangeSpec} {conds:List PathCond} {apart fresh handsOn again:Bool} {X:Wd->Array Value->Prop}
  (hX:∀ (w w':Wd) (args:Array Value),w.heap=w'.heap->X w args->X w' args)
  (own:ownKnob C.prog.godebug=none) (started:os.Started) (noInit:C.prog.inits.idxOf? f=none) (hfn:C.prog.funcs[f]?=some fn)
  (witness:∃ (w:Wd) (tape:Tape) (i:Input),w.os=os/\(w.forCall tape i).Shaped C.prog/\i.vars=[]/\Input.okWide C.prog (w.forCall tape i) .any w.heap.size f i /\
   ((s.pre enc C.prog fn conds apart (w.forCall tape i).memory i.args/\X (w.forCall tape i).memory i.args)/\sizedMet enc C.prog fn (OpenSpec.ofChange s) apart (w.forCall tape i).memory i.args)/\a.holds C.prog (lone (Frame.enter C.prog f i.args .normal) [] (w.forCall tape i)))
  (contract:∀ (W:Wd) (base:Nat) (args:Array Value) (ds gs:List (DataW H)) (before:List MemPlace),
   (∀ (j:Nat) t v,fn.params[j]?=some t->args[j]?=some v->Value.okWide C.prog W .any base t v) ->
   DataW.Whole enc C.prog fn.params.toList s.vars apart W args.toList ds gs before->X W args->W.ShapedOpen C.prog ->
   (∃ ds gs before,DataW.Whole enc C.prog fn.params.toList (OpenSpec.ofChange s).vars apart W args.toList ds gs before/\∀ n∈DataW.weightsEach C.prog (fn.params.toList++(OpenSpec.ofChange s).bare.plain.varTypes C.prog) (ds++gs),n<=reachBytes) ->
   Calls C.prog f args W fun e W'=>∃ v,e = .returned v/\s.post enc C.prog fn apart fresh handsOn again W args v W') :
  ReturnsInHanded a C os f .any (fun w args=>(s.pre enc C.prog fn conds apart w args/\X w args)/\sizedMet enc C.prog fn (OpenSpec.ofChange s) apart w args) (s.post enc C.prog fn apart fresh handsOn again):=by
 refine returnsInHanded_of_calls own started noInit witness ?_;intro w tape i _ hsh _ hok hpre hholds;obtain⟨_,_,_,fn',hfn',_,_,_,_,hval⟩:=hok;have e:fn'=fn:=Ui (hfn'.symm.trans hfn);subst e;obtain⟨⟨⟨ds,gs,before,hw,hc⟩,hx⟩,hz⟩:=hpre;have hw':=DataW.Whole.of_heap (w':=w.forCall tape i) (by rfl) hw;obtain⟨_,ds2,gs2,before2,hw2,hall⟩:=hz;refine (contract (w.forCall tape i) w.heap.size i.args ds gs before hval hw' (hX _ _ _ (by rfl) hx) hsh ⟨ds2,gs2,before2,DataW.Whole.of_heap (w':=w.forCall tape i) (by rfl) hw2,fun n hn=>dT (Ql.1 hall n hn)⟩).mono fun e W' ⟨v,he,hp⟩=>?_;subst he;exact ChangeSpec.post_blind hp
section
variable {H:Type} {enc:TypeId×Value->H} {P:Program} {w:Wd} {base:Nat} {spare:Nat->Bool} {held:Bool} {fuel:Nat} {t:TypeId} {cs:List Value} {x:DataW H×List MemPlace}
def Wgt (P:Program) (t:TypeId) (d:DataW H):Prop:=∀ n∈d.weights P t,n<=reachBytes
theorem zqH {ds:List (DataW H)} {e:TypeId} (h:∀ n∈DataW.weightsAll P e ds,n<=reachBytes):∀ d∈ds,Wgt P e d:=by
 induction ds with
 | nil=>intro d hd;cases hd
 | cons a r ih =>
  intro d hd;simp only [DataW.weightsAll,QW] at h;rcases UJ.1 hd with rfl | hd
  ·exact fun n hn=>h n (.inl hn)
  ·exact ih (fun n hn=>h n (.inr hn)) d hd
end
theorem zg0 {H:Type}:∀ {a b:List UInt8},a.map (fun b=>(DataW.lit (.int .u8 b.toNat):DataW H))=b.map (fun b=>DataW.lit (.int .u8 b.toNat))->a=b
 | [],[],_=>rfl
 | [],_::_,h=>by cases h
 | _::_,[],h=>by cases h
 | x::a,y::b,h=>by
  simp only [UI,QQ,QL,UK,Gz] at h;rw [zg0 h.2,Uj.1 (by omega:x.toNat=y.toNat)]
set_option linter.unusedSectionVars false
section
variable {H:Type} {enc:TypeId×Value->H} {P:Program} {w:Wd} {base:Nat} {spare:Nat->Bool} {held:Bool} {fuel:Nat} {t:TypeId} {cs:List Value} {x:DataW H×List MemPlace}
theorem zgQ {n:Nat} {e:TypeId} (ht:P.underlying t=some (.array n e)) (he:P.underlying e=some .string) (hc:P.cellsOf e=1) (hn:P.cellsOf t=n)
  (h:DataW.trod enc P w base spare held fuel t cs=some x):∃ ls:List (List UInt8),ls.length=n/\cs=ls.map zx/\x.1 = .agg (ls.map fun b => .lit (.string b)):=by
 obtain⟨xs,m,rfl,rfl,hl,hx,hel⟩:=DataW.trod_array ht h;rw [hn] at hl;have each:∀ i (h:i<n),∃ b:List UInt8,cs[i]?=some (zx b)/\xs[i]?.map (·.1)=some (.lit (.string b)):=fun i hi=>by
  have h1:=hel i hi;rw [hc,gE (by omega)] at h1;obtain⟨s,h2,h3,_⟩:=DataW.trod_string he h1;have es:Value.string s=zx s.data.toList:=by unfold zx bs;cases s;rfl
  refine⟨s.data.toList,?_,by rw [gE (by omega),Uh,h3]⟩;have:((cs.drop (i*1)).take 1)[0]?=some (zx s.data.toList):=by rw [h2,es];rfl
  simpa using this
 have:∀ k,k<=n->∃ ls:List (List UInt8),ls.length=k/\cs.take k=ls.map zx/\(xs.take k).map (·.1)=ls.map fun b => .lit (.string b):=by
  intro k
  induction k with
  | zero=>exact fun _=>⟨[],rfl,by simp,by simp⟩
  | succ k ih =>
   intro hk;obtain⟨ls,h1,h2,h3⟩:=ih (by omega);obtain⟨b,h4,h5⟩:=each k (by omega);have hk1:k<cs.length:=by omega
   have hk2:k<xs.length:=by omega
   rw [gE hk1] at h4;rw [gE hk2] at h5;refine⟨ls++[b],by simp [h1],?_,?_⟩
   ·rw [tsg hk1,h2,Ui h4];simp
   ·rw [tsg hk2,QV,h3];simp at h5;simp [h5]
 obtain⟨ls,h1,h2,h3⟩:=this n (Gh _);rw [JE (by omega)] at h2 h3;exact⟨ls,h1,h2,by rw [<- h3]⟩
theorem zgy:∀ {a b:List (List UInt8)},(a.map fun b=>(DataW.lit (.string b):DataW Unit))=(b.map fun b => .lit (.string b))->a=b
 | [],[],_=>rfl
 | [],_::_,h=>by cases h
 | _::_,[],h=>by cases h
 | x::r,y::t,h=>by
  simp only [UI,QQ,QL,Lit.string.injEq] at h;rw [h.1,zgy h.2]
def zoG:List Int:=[0,0,1,2,3,4,0,0,0,0]
theorem zpJ {W:Wd} (h1:zq W ⟨3,0,none⟩ (z6.map zx)) (h2:zq W ⟨1,0,none⟩ (zoG.map i64)) (h3:zq W ⟨2,0,none⟩ (jL.map zx)) (h4:zq W ⟨0,0,none⟩ (zeR.map i64)) (h5:GlobC W) (h6:Tz64M W) (h7:Tz32M W):GlobA W:=by
 refine⟨⟨h1,h2,h3,h4,?_⟩,⟨h5,h6,h7⟩⟩;have h0:=h1 0 _ rfl;unfold World.cell? at h0
 split at h0
 ·rename_i hb;exact hlt hb
 ·cases h0
end
section
variable {H:Type} {enc:TypeId×Value->H} {P:Program} {w:Wd} {base:Nat} {spare:Nat->Bool} {held:Bool} {fuel F:Nat} {t e:TypeId} {cs:List Value} {x:DataW H×List MemPlace}
def OpensW (enc:TypeId×Value->H) (P:Program) (w:Wd) (base:Nat) (spare:Nat->Bool) (held:Bool) (F:Nat) (t:TypeId) (R:List Value->Prop):Prop :=
 ∀ n,n<F->∀ cs x,DataW.trod enc P w base spare held n t cs=some x->Wgt P t x.1->R cs
theorem znC {R:List Value->Prop} (h:Opens enc P w base spare held t R):OpensW enc P w base spare held F t R:=fun n _ cs x h1 _=>h n cs x h1
theorem OpensW.field {fs:Array Field} {R:List Value->Prop} (ht:P.underlying t=some (.struct fs)) (h:DataW.trod enc P w base spare held fuel t cs=some x) (hw:Wgt P t x.1) (hF:fuel<=F) {i:Nat} {f:Field} (hf:fs[i]?=some f) {T o k:Nat} (hT:f.type=T) (hO:f.offset=o) (hk:P.cellsOf T=k)
  (ho:OpensW enc P w base spare held F T R):R ((cs.drop o).take k):=by
 subst hT hO hk;obtain⟨xs,n,rfl,rfl,hl,hx,hel⟩:=KM ht h;have h1:=hel i f hf;have hi:i<xs.length:=by rw [hx];exact (Jk.1 hf).1
 rw [gE hi] at h1;refine ho n (by omega) _ _ h1 fun m hm=>hw m ?_;simp only [DataW.weights,ht];refine DataW.weights_mem_each (j:=i) (t:=f.type) (d:=xs[i].1) ?_ ?_ m hm
 ·rw [KW];have:fs.toList[i]?=some f:=by simpa using hf
  rw [this];rfl
 ·rw [KW,gE hi];rfl
theorem zlr (ht:P.underlying t=some .string):OpensW enc P w base spare held F t fun cs=>∃ s:List UInt8,s.length<=140737488351232/\cs=[zx s]:=fun n _ cs x h hw=>by
 obtain⟨s,rfl,rfl,_⟩:=DataW.trod_string ht h;refine⟨s.data.toList,hw _ (by simp [DataW.weights]),?_⟩;unfold zx bs;rw [Array.toArray_toList]
theorem znB {β:Type} (i0:β) {f:β->List Value} {Q:β->Prop} {sz:Nat} (hp:0<sz) (ht:P.underlying t=some (.slice e)) (hc:P.cellsOf e=sz) (hb:Nat.ble 1 (P.bytesOf e)=true) (ho:OpensW enc P w base spare held F e fun cs=>∃ b,Q b/\cs=f b) :
  OpensW enc P w base spare held (F+1) t fun cs=>∃ (p:OA) (cap:Nat) (l:List β),cs=[.slice p l.length cap]/\(l.length<=140737488351232/\l.length*P.bytesOf e<=140737488351232)/\l.length<=cap/\(∀ b∈l,Q b)/\∃ b o,(l.length=0\/p=some ⟨b,o,none⟩)/\∀ i (hi:i<l.length),b<w.heap.size/\zq w ⟨b,o+i*sz,none⟩ (f l[i]):=fun n hn cs x h hw=>by
 rcases DataW.trod_slice ht h with ⟨rfl,_⟩ | ⟨a,len,cap,elems,qI,n,rfl,rfl,hx,_,hlc,hcm,hlen,hel,_,_⟩
 ·exact⟨none,0,[],rfl,⟨by simp,by simp⟩,by simp,by simp,0,0,.inl rfl,fun i hi=>by simp at hi⟩
 ·subst hx;have hw':∀ m,m∈((elems.map (·.1)).length+(qI.map (·.1)).length)*P.bytesOf e::(DataW.weightsAll P e (elems.map (·.1))++DataW.weightsAll P e (qI.map (·.1)))->m<=reachBytes:=fun m hm=>by
   refine hw m ?_;simp only [DataW.weights,ht];exact hm
  have hb:=JS hb;have hlb:len<=140737488351232/\len*P.bytesOf e<=140737488351232:=by
   have h1:=hw' _ KB;simp only [QS] at h1;have:elems.length*1<=(elems.length+qI.length)*P.bytesOf e:=Uv (QA _ _) hb;have h2:elems.length*P.bytesOf e<=(elems.length+qI.length)*P.bytesOf e:=Uv (QA _ _) (Gh _);have hr:reachBytes=140737488351232:=rfl;rw [<- hlen];omega
  have each:∀ i,i<len->∃ m:β,Q m/\(a.add (i*sz)).spot=none/\(a.add (i*sz)).block<w.heap.size/\zq w ⟨(a.add (i*sz)).block,(a.add (i*sz)).off,none⟩ (f m):=fun i hi=>by
   have h1:=hel i hi;rw [hc,gE (by omega),Option.bind_eq_some_iff] at h1;obtain⟨cs,h2,h3⟩:=h1;obtain⟨m,hq,rfl⟩:=ho n (by omega) _ _ h3 (zqH (ds:=elems.map (·.1)) (fun m hm=>hw' m (JW _ (List.mem_append_left _ hm))) _ (Kl (gM _)));exact⟨m,hq,zff hp h2⟩
  obtain⟨l,h1,h2⟩:=zi2 i0 each;refine⟨some a,cap,l,by rw [h1],by rw [h1];exact hlb,by omega,fun b hb=>?_,a.block,a.off,?_,fun i hi=>?_⟩
  ·obtain⟨i,hi,rfl⟩:=Ki hb;exact (h2 i hi).1
  ·by_cases h00:l.length=0
   ·exact .inl h00
   ·right;have hsp:a.spot=none:=by
     have:=(h2 0 (by omega)).2.1;simpa [Addr.add] using this
    obtain⟨b,o,s⟩:=a;dsimp only at hsp;subst hsp;rfl
  ·have hsp:a.spot=none:=by
    have:=(h2 0 (by omega)).2.1;simpa [Addr.add] using this
   obtain⟨b,o,s⟩:=a;dsimp only at hsp;subst hsp;have:=(h2 i hi).2.2;rw [zhy] at this;exact this
end
section
variable {H:Type} {enc:TypeId×Value->H} {w:Wd} {base:Nat} {spare:Nat->Bool} {held:Bool} {F:Nat}
theorem zgP:∀ F,OpensW enc PG w base spare held F 24 fun cs=>∃ x:Trm×OA×Nat,(x.1.name.length<=140737488351232/\KidsT (fun _=>True) w x.2.1 x.1.kids)/\cs=ze x.1 x.2.1 x.2.2
 | 0=>fun n hn=>GD hn (Nat.not_lt_zero _)
 | F+1=>fun n hn cs x h hw=>by
  have ih:=zgP F;have hF:n<=F+1:=by omega
  have hl:cs.length=3:=by
   obtain⟨xs,m,_,_,hl,_,_⟩:=KM Tryz.underlying24 h;rw [cC 24 3 (by kernel_rfl)] at hl;exact hl
  obtain⟨b0,e0⟩:=OpensW.field (F:=F+1) (o:=0) (i:=0) Tryz.underlying24 h hw hF rfl rfl rfl zcY (znC (zbR Tryz.underlying5));obtain⟨nq,k1,e1⟩:=OpensW.field (F:=F+1) (o:=1) (i:=1) Tryz.underlying24 h hw hF rfl rfl rfl (cC 9 1 (by kernel_rfl)) (zlr Tryz.underlying9);obtain⟨p,cap,l,e2,hll,_,hQ,b,o,hp,hc⟩:=OpensW.field (F:=F+1) (o:=2) (i:=2) Tryz.underlying24 h hw hF rfl rfl rfl (cC 22 1 (by kernel_rfl))
   (znB (F:=F) ((.mk 0 [] [],none,0):Trm×OA×Nat) (f:=fun x=>ze x.1 x.2.1 x.2.2) (Q:=fun x=>x.1.name.length<=140737488351232/\KidsT (fun _=>True) w x.2.1 x.1.kids) (sz:=3) (by decide) Tryz.underlying22 (by kernel_rfl) (by kernel_rfl) ih)
  have at_:∀ i (hi:i<l.length),l.getD i (.mk 0 [] [],none,0)=l[i]:=fun i hi=>by rw [gDe,gE hi];rfl
  refine⟨(.mk b0 nq (l.map (·.1)),p,cap),⟨k1,?_⟩,?_⟩
  ·refine .mk p (l.map (·.1)) (by rw [QS];exact hll.1) b o (by rw [QS];exact hp) (fun i=>(l.getD i (.mk 0 [] [],none,0)).2.1) (fun i=>(l.getD i (.mk 0 [] [],none,0)).2.2) (fun i hi=>?_) (fun i hi=>?_)
   ·have hi':i<l.length:=(by rw [QS] at hi;exact hi);rw [at_ i hi',Qs];exact⟨(hQ _ (gM hi')).1,trivial,(hc i hi').2⟩
   ·have hi':i<l.length:=(by rw [QS] at hi;exact hi);rw [at_ i hi',Qs];exact (hQ _ (gM hi')).2
  ·have h0:cs=cs.drop 0:=rfl;have h9:cs.drop 3=[]:=JA (by omega);rw [h0,cut cs 0 1 1 rfl,cut cs 1 1 2 rfl,cut cs 2 1 3 rfl,e0,e1,e2,h9];simp [ze,Trm.kind,Trm.name,Trm.kids]
theorem zib {a:Array Value} {d:DataW H} {p:List MemPlace} (h:DataW.Trod enc PG w base spare held 24 (.agg a) d p) (hw:Wgt PG 24 d):∃ (t:Trm) (q:OA) (c:Nat),Value.agg a = .agg (ze t q c).toArray/\t.name.length<=140737488351232/\KidsT jS w q t.kids:=by
 obtain⟨fuel,h⟩:=h;obtain⟨x,hx,hc⟩:=zgP (fuel+1) fuel (QC _) _ _ h hw;have:a.toList=ze x.1 x.2.1 x.2.2:=hc;exact⟨x.1,x.2.1,x.2.2,by rw [<- this],hx⟩
end
theorem zgX {α:Type} (d:α) (f:α->Value) (n:Nat) (l:List α) (h:l.length=n):l.map f=(List.range n).map fun i=>f (l.getD i d):=by
 apply KS;intro i;rw [KW,KW];by_cases hi:i<n
 ·rw [Kh hi,gE (by omega),Uh,Uh,gDe,gE (by omega)];rfl
 ·rw [JJ (by omega),JJ (by rw [KX];omega)];rfl
theorem zfY {α:Type} (f:α->Value):∀ l:List α,l.flatMap (fun x=>[f x])=l.map f
 | []=>rfl
 | a::l=>by rw [KU,zfY f l];rfl
theorem flatMap_map {α:Type} (f:α->Value):∀ l:List (List α),l.flatMap (fun x=>x.map f)=l.flatten.map f
 | []=>rfl
 | a::l=>by rw [KU,flatMap_map f l,List.flatten_cons,QV]
section
variable {H:Type} {enc:TypeId×Value->H} {w:Wd} {base:Nat} {spare:Nat->Bool} {held:Bool}
theorem zpf:Opens enc PG w base spare held 158 fun cs=>∃ e:Ev,True/\cs=evE.enc e:=fun fuel cs x h=>by
 obtain⟨xs,m,rfl,rfl,hl,hx,hel⟩:=KM Tryz.underlying158 h;rw [cC 158 7 (by kernel_rfl)] at hl;obtain⟨b0,e0⟩:=Opens.field (o:=0) (i:=0) hel hx rfl rfl (cC 3 1 (by kernel_rfl)) (zh9 Tryz.underlying3);obtain⟨b1,e1⟩:=Opens.field (o:=1) (i:=1) hel hx rfl rfl zcY (zbR Tryz.underlying5);obtain⟨b2,e2⟩:=Opens.field (o:=2) (i:=2) hel hx rfl rfl zcY (zbR Tryz.underlying5);obtain⟨b3,e3⟩:=Opens.field (o:=3) (i:=3) hel hx rfl rfl zcY (zbR Tryz.underlying5);obtain⟨b4,e4⟩:=Opens.field (o:=4) (i:=4) hel hx rfl rfl zcY (zbR Tryz.underlying5);obtain⟨b5,e5⟩:=Opens.field (o:=5) (i:=5) hel hx rfl rfl zcY (zbR Tryz.underlying5);obtain⟨b6,e6⟩:=Opens.field (o:=6) (i:=6) hel hx rfl rfl zcY (zbR Tryz.underlying5);refine⟨⟨b0,b1,b2,b3,b4,b5,b6⟩,trivial,?_⟩;have h0:cs=cs.drop 0:=rfl;have h9:cs.drop 7=[]:=JA (by omega);rw [h0,cut cs 0 1 1 rfl,cut cs 1 1 2 rfl,cut cs 2 1 3 rfl,cut cs 3 1 4 rfl,cut cs 4 1 5 rfl,cut cs 5 1 6 rfl,cut cs 6 1 7 rfl,e0,e1,e2,e3,e4,e5,e6,h9];rfl
theorem zbB:Opens enc PG w base spare held 30 fun cs=>∃ r:RelD,zE r.to/\cs=zf r:=fun fuel cs x h=>by
 obtain⟨xs,m,rfl,rfl,hl,hx,hel⟩:=KM Tryz.underlying30 h;rw [cC 30 49 (by kernel_rfl)] at hl;obtain⟨n,e0⟩:=Opens.field (o:=0) (i:=0) hel hx rfl rfl (cC 3 1 (by kernel_rfl)) (zh9 Tryz.underlying3);obtain⟨bs,h1,h2,e1⟩:=Opens.field (o:=1) (i:=1) hel hx rfl rfl (cC 28 48 (by kernel_rfl)) (zia (β:=Nat) 0 (f:=fun n=>[s64 n]) (Q:=fun n=>n<18446744073709551616) (n:=48) (sz:=1) Tryz.underlying28 (by kernel_rfl) (by kernel_rfl) (znA Tryz.underlying27));refine⟨⟨n,fun i=>bs.getD i 0⟩,fun i hi=>?_,?_⟩
 ·show bs.getD i 0<2^64;rw [gDe,gE (by omega)];exact h2 _ (gM _)
 have h0:cs=cs.drop 0:=rfl;have h9:cs.drop 49=[]:=JA (by omega);rw [h0,cut cs 0 1 1 rfl,cut cs 1 48 49 rfl,e0,e1,h9,zfY,zgX 0 s64 48 bs h1,QO];rfl
theorem zj2:Opens enc PG w base spare held 35 fun cs=>∃ (f g:Nat->UInt8),cs=seg 32 (fun i=>u8 (f i))++seg 6 (fun i=>u8 (g i)):=fun fuel cs x h=>by
 obtain⟨xs,m,rfl,rfl,hl,hx,hel⟩:=KM Tryz.underlying35 h;rw [cC 35 38 (by kernel_rfl)] at hl;have row:Opens enc PG w base spare held 31 fun cs=>∃ bs:List UInt8,bs.length=8/\cs=bs.map u8:=zh8 Tryz.underlying31 Tryz.underlying5 zcY (cC 31 8 (by kernel_rfl));obtain⟨bss,h1,h2,e0⟩:=Opens.field (o:=0) (i:=0) hel hx rfl rfl (cC 32 32 (by kernel_rfl)) (zia (β:=List UInt8) [] (f:=fun bs=>bs.map u8) (Q:=fun bs=>bs.length=8) (n:=4) (sz:=8) Tryz.underlying32 (by kernel_rfl) (by kernel_rfl) row);obtain⟨ms,h3,e1⟩:=Opens.field (o:=32) (i:=1) hel hx rfl rfl (cC 33 6 (by kernel_rfl)) (zh8 Tryz.underlying33 Tryz.underlying5 zcY (cC 33 6 (by kernel_rfl)));have hfl:bss.flatten.length=32:=by
  match bss,h1 with
  | [a,b,c,d],_ =>
   have:=h2 a (by simp);have:=h2 b (by simp);have:=h2 c (by simp);have:=h2 d (by simp);simp only [List.flatten_cons,List.flatten_nil,lap,QT];omega
 refine⟨fun i=>bss.flatten.getD i 0,fun i=>ms.getD i 0,?_⟩;have h0:cs=cs.drop 0:=rfl;have h9:cs.drop 38=[]:=JA (by omega);rw [h0,cut cs 0 32 32 rfl,cut cs 32 6 38 rfl,e0,e1,h9,flatMap_map,zgX 0 u8 32 _ hfl,zgX 0 u8 6 ms h3,QO];rfl
theorem zsV {α:Type} {E:Enc α} {p:OA} {l:List α} {b o:Nat} (h1:l.length=0\/p=some ⟨b,o,none⟩) (h2:∀ i (hi:i<l.length),b<w.heap.size/\zq w ⟨b,o+i*E.sz,none⟩ (E.enc l[i])):SlR E w p l:=by
 rcases h1 with h | h
 ·exact .inl (Jf h)
 ·by_cases h0:l=[]
  ·exact .inl h0
  ·have hl:=List.length_pos_iff.2 h0;exact .inr ⟨b,o,h,(h2 0 hl).1,fun i hi=>(h2 i hi).2⟩
theorem zlq:Opens enc PG w base spare held 37 fun cs=>∃ (x:ExD) (q:OA) (c:Nat),(SlR evE w q x.ev/\WX x)/\cs=exC x q c:=fun fuel cs x h=>by
 obtain⟨xs,m,rfl,rfl,hl,hx,hel⟩:=KM Tryz.underlying37 h;rw [cC 37 333 (by kernel_rfl)] at hl;obtain⟨q,c,l,e0,_,_,_,b,o,hp,hc⟩:=Opens.field (o:=0) (i:=0) hel hx rfl rfl (cC 25 1 (by kernel_rfl)) (zpe (β:=Ev) ev0 (f:=evE.enc) (Q:=fun _=>True) (sz:=7) (by decide) Tryz.underlying25 (by kernel_rfl) zpf);have c49:=cC 30 49 (by kernel_rfl);obtain⟨r1,w1,e1⟩:=Opens.field (o:=1) (i:=1) hel hx rfl rfl c49 zbB;obtain⟨r2,w2,e2⟩:=Opens.field (o:=50) (i:=2) hel hx rfl rfl c49 zbB;obtain⟨r3,w3,e3⟩:=Opens.field (o:=99) (i:=3) hel hx rfl rfl c49 zbB;obtain⟨r4,w4,e4⟩:=Opens.field (o:=148) (i:=4) hel hx rfl rfl c49 zbB;obtain⟨r5,w5,e5⟩:=Opens.field (o:=197) (i:=5) hel hx rfl rfl c49 zbB;obtain⟨r6,w6,e6⟩:=Opens.field (o:=246) (i:=6) hel hx rfl rfl c49 zbB;obtain⟨f,g,e7⟩:=Opens.field (o:=295) (i:=7) hel hx rfl rfl (cC 35 38 (by kernel_rfl)) zj2;refine⟨⟨l,r1,r2,r3,r4,r5,r6,f,g⟩,q,c,⟨zsV hp hc,⟨w1,w2,w3,w4,w5,w6⟩⟩,?_⟩;have h0:cs=cs.drop 0:=rfl;have h9:cs.drop 333=[]:=JA (by omega);rw [h0,cut cs 0 1 1 rfl,cut cs 1 49 50 rfl,cut cs 50 49 99 rfl,cut cs 99 49 148 rfl,cut cs 148 49 197 rfl,cut cs 197 49 246 rfl,cut cs 246 49 295 rfl,cut cs 295 38 333 rfl,e0,e1,e2,e3,e4,e5,e6,e7,h9,QO];rfl
theorem zls {a:Array Value} {d:DataW H} {p:List MemPlace} (h:DataW.Trod enc PG w base spare held 37 (.agg a) d p):∃ (x:ExD) (q:OA) (c:Nat),Value.agg a = .agg (exC x q c).toArray/\(SlR evE w q x.ev/\WX x):=by
 obtain⟨fuel,h⟩:=h;obtain⟨x,q,c,hr,hc⟩:=zlq _ _ _ h;have:a.toList=exC x q c:=hc;exact⟨x,q,c,by rw [<- this],hr⟩
end
structure GlobL11 (W:Wd):Prop where
 t32:Tz32M W
 t64:Tz64M W
 needs:GlobC W
 cnd:zq W ⟨0,0,none⟩ (zeR.map i64)
 cst:zq W ⟨1,0,none⟩ (zoG.map i64)
 csg:zq W ⟨2,0,none⟩ (jL.map zx)
 cop:zq W ⟨3,0,none⟩ (z6.map zx)
abbrev j5 : List (String × DataW Unit) := [("math/bits.deBruijn32tab", Rows.laid_math_bits_deBruijn32tab), ("math/bits.deBruijn64tab", Rows.laid_math_bits_deBruijn64tab), ("seisin/check.needs", Rows.laid_seisin_check_needs), ("seisin/cat.needs", Rows.laid_seisin_cat_needs), ("seisin/cat.strength", Rows.laid_seisin_cat_strength), ("seisin/cat.signs", Rows.laid_seisin_cat_signs), ("seisin/cat.openers", Rows.laid_seisin_cat_openers)]
theorem qY {W:Wd} (h:laidMetH PG j5 W) (hsh:W.ShapedOpen PG):GlobL11 W:=by
 have h0:laidMet PG j5 W:=h;have h1:=h0.tail;have h2:=h1.tail;have h3:=h2.tail;have h4:=h3.tail;have h5:=h4.tail;have h6:=h5.tail;have t32:Tz32M W:=by
  obtain⟨ps,⟨g',t',cs,fuel,p,q,hg',ht',hv,hd,_,_⟩,_⟩:=h0
  obtain rfl := Ui ((show Tryz.prog.globalNamed "math/bits.deBruijn32tab" = some 9 by kernel_rfl).symm.trans hg')
  obtain rfl:=Ui ((show (Tryz.prog.globals[9]?).map (·.type)=some 369 by kernel_rfl).symm.trans ht');obtain⟨bs,h1,h2,h3⟩:=zeN Tryz.underlying369 Tryz.underlying5 (by kernel_rfl) (by kernel_rfl) hd;have hbs:bs=zhP:=by
   have e:(Rows.laid_math_bits_deBruijn32tab:DataW Unit) = .agg (zhP.map fun b => .lit (.int .u8 b.toNat)):=rfl;exact zg0 (UE (h3.symm.trans e))
  subst hbs;refine qM fun i v hvv=>?_;have hc:=Uk hg' hv i;rw [<- hvv,<- h2];simpa using hc
 have t64:Tz64M W:=by
  obtain⟨ps,⟨g',t',cs,fuel,p,q,hg',ht',hv,hd,_,_⟩,_⟩:=h1
  obtain rfl := Ui ((show Tryz.prog.globalNamed "math/bits.deBruijn64tab" = some 4 by kernel_rfl).symm.trans hg')
  obtain rfl:=Ui ((show (Tryz.prog.globals[4]?).map (·.type)=some 299 by kernel_rfl).symm.trans ht');obtain⟨bs,h1,h2,h3⟩:=zeN Tryz.underlying299 Tryz.underlying5 (by kernel_rfl) (by kernel_rfl) hd;have hbs:bs=zhO:=by
   have e:(Rows.laid_math_bits_deBruijn64tab:DataW Unit) = .agg (zhO.map fun b => .lit (.int .u8 b.toNat)):=rfl;exact zg0 (UE (h3.symm.trans e))
  subst hbs;refine qM fun i v hvv=>?_;have hc:=Uk hg' hv i;rw [<- hvv,<- h2];simpa using hc
 have needs:GlobC W:=by
  obtain⟨ps,⟨g',t',cs,fuel,p,q,hg',ht',hv,hd,_,_⟩,_⟩:=h2
  obtain rfl := Ui ((show Tryz.prog.globalNamed "seisin/check.needs" = some 8 by kernel_rfl).symm.trans hg')
  obtain rfl:=Ui ((show (Tryz.prog.globals[8]?).map (·.type)=some 359 by kernel_rfl).symm.trans ht');obtain⟨bs,h1,h2,h3⟩:=zeN Tryz.underlying359 Tryz.underlying5 (by kernel_rfl) (by kernel_rfl) hd;have hbs:bs=zeS:=by
   match bs,h1 with
   | [b0,b1,b2,b3,b4,b5,b6,b7,b8],_ =>
    simp only [Rows.laid_seisin_check_needs,UI,UQ,DataW.agg.injEq,QQ,QL,UK,Gz,Gu] at h3;simp only [zeS,QQ,Gu];obtain⟨a0,a1,a2,a3,a4,a5,a6,a7,a8⟩:=h3;refine⟨?_,?_,?_,?_,?_,?_,?_,?_,?_⟩ <;> (apply Uj.1;simp;omega)
  subst hbs;refine qM fun i v hvv=>?_;have hc:=Uk hg' hv i;rw [<- hvv,<- h2];simpa using hc
 have cnd:zq W ⟨0,0,none⟩ (zeR.map i64):=by
  obtain⟨ps,⟨g',t',cs,fuel,p,q,hg',ht',hv,hd,_,_⟩,_⟩:=h3
  obtain rfl := Ui ((show Tryz.prog.globalNamed "seisin/cat.needs" = some 0 by kernel_rfl).symm.trans hg')
  obtain rfl:=Ui ((show (Tryz.prog.globals[0]?).map (·.type)=some 180 by kernel_rfl).symm.trans ht');obtain⟨bs,h1,h2,h3⟩:=zmr Tryz.underlying180 Tryz.underlying3 (by kernel_rfl) (by kernel_rfl) hd;have hbs:bs=zeR:=by
   match bs,h1 with
   | [b0,b1,b2,b3,b4,b5,b6,b7,b8,b9],_ =>
    simp only [Rows.laid_seisin_cat_needs,UI,UQ,DataW.agg.injEq,QQ,QL,UK,Gz,Gu] at h3;simp only [zeR,QQ,Gu];obtain⟨a0,a1,a2,a3,a4,a5,a6,a7,a8,a9⟩:=h3;exact⟨a0.symm,a1.symm,a2.symm,a3.symm,a4.symm,a5.symm,a6.symm,a7.symm,a8.symm,a9.symm⟩
  subst hbs;refine qM fun i v hvv=>?_;have hc:=Uk hg' hv i;rw [<- hvv,<- h2];simpa using hc
 have cst:zq W ⟨1,0,none⟩ (zoG.map i64):=by
  obtain⟨ps,⟨g',t',cs,fuel,p,q,hg',ht',hv,hd,_,_⟩,_⟩:=h4
  obtain rfl := Ui ((show Tryz.prog.globalNamed "seisin/cat.strength" = some 1 by kernel_rfl).symm.trans hg')
  obtain rfl:=Ui ((show (Tryz.prog.globals[1]?).map (·.type)=some 180 by kernel_rfl).symm.trans ht');obtain⟨bs,h1,h2,h3⟩:=zmr Tryz.underlying180 Tryz.underlying3 (by kernel_rfl) (by kernel_rfl) hd;have hbs:bs=zoG:=by
   match bs,h1 with
   | [b0,b1,b2,b3,b4,b5,b6,b7,b8,b9],_ =>
    simp only [Rows.laid_seisin_cat_strength,UI,UQ,DataW.agg.injEq,QQ,QL,UK,Gz,Gu] at h3;simp only [zoG,QQ,Gu];obtain⟨a0,a1,a2,a3,a4,a5,a6,a7,a8,a9⟩:=h3;exact⟨a0.symm,a1.symm,a2.symm,a3.symm,a4.symm,a5.symm,a6.symm,a7.symm,a8.symm,a9.symm⟩
  subst hbs;refine qM fun i v hvv=>?_;have hc:=Uk hg' hv i;rw [<- hvv,<- h2];simpa using hc
 have csg:zq W ⟨2,0,none⟩ (jL.map zx):=by
  obtain⟨ps,⟨g',t',cs,fuel,p,q,hg',ht',hv,hd,_,_⟩,_⟩:=h5
  obtain rfl := Ui ((show Tryz.prog.globalNamed "seisin/cat.signs" = some 2 by kernel_rfl).symm.trans hg')
  obtain rfl:=Ui ((show (Tryz.prog.globals[2]?).map (·.type)=some 185 by kernel_rfl).symm.trans ht');obtain⟨bs,h1,h2,h3⟩:=zgQ Tryz.underlying185 Tryz.underlying9 (by kernel_rfl) (by kernel_rfl) hd;have hbs:bs=jL:=zgy (UE ((show (DataW.agg (jL.map fun b => .lit (.string b)):DataW Unit)=_ from h3).symm.trans rfl).symm) |>.symm;subst hbs;refine qM fun i v hvv=>?_;have hc:=Uk hg' hv i;rw [<- hvv,<- h2];simpa using hc
 have cop:zq W ⟨3,0,none⟩ (z6.map zx):=by
  obtain⟨ps,⟨g',t',cs,fuel,p,q,hg',ht',hv,hd,_,_⟩,_⟩:=h6
  obtain rfl := Ui ((show Tryz.prog.globalNamed "seisin/cat.openers" = some 3 by kernel_rfl).symm.trans hg')
  obtain rfl:=Ui ((show (Tryz.prog.globals[3]?).map (·.type)=some 67 by kernel_rfl).symm.trans ht');obtain⟨bs,h1,h2,h3⟩:=zgQ Tryz.underlying67 Tryz.underlying9 (by kernel_rfl) (by kernel_rfl) hd;have hbs:bs=z6:=zgy (UE ((show (DataW.agg (z6.map fun b => .lit (.string b)):DataW Unit)=_ from h3).symm.trans rfl).symm) |>.symm;subst hbs;refine qM fun i v hvv=>?_;have hc:=Uk hg' hv i;rw [<- hvv,<- h2];simpa using hc
 exact⟨t32,t64,needs,cnd,cst,csg,cop⟩
def zmx:DataW Unit->List Value
 | .lit (.int k n)=>[.int k n]
 | .lit (.string s)=>[.string ⟨s.toArray⟩]
 | _=>[]
def zcP:DataW Unit->List Value
 | .agg ps=>ps.flatMap zmx
 | x=>zmx x
def zcH (h:Array Obj) (g:Nat) (cs:List Value):Array Obj:=h.modify g fun
 | .cells _ t frozen => .cells cs.toArray t frozen
 | o=>o
def zrr (h:Array Obj):Array Obj :=
 let h1:=zcH h 9 (zcP Rows.laid_math_bits_deBruijn32tab)
 let h2:=zcH h1 4 (zcP Rows.laid_math_bits_deBruijn64tab)
 let h3:=zcH h2 8 (zcP Rows.laid_seisin_check_needs)
 let h4:=zcH h3 0 (zcP Rows.laid_seisin_cat_needs)
 let h5:=zcH h4 1 (zcP Rows.laid_seisin_cat_strength)
 let h6:=zcH h5 2 (zcP Rows.laid_seisin_cat_signs)
 zcH h6 3 (zcP Rows.laid_seisin_cat_openers)
noncomputable def ze2 (os:Os):Wd :=
 { World.holding PG os ⟨#[],#[],[]⟩ with heap:=zrr (World.holding PG os ⟨#[],#[],[]⟩).heap }
theorem zfC (os:Os) (args:Array Value):laidMetH PG j5 ((ze2 os).forCall (fun _ _=>0) ⟨#[],args,[]⟩).memory:=by
 show laidMet PG j5 _;exact laidMet_of_run' 8 (by kernel_rfl) (by kernel_rfl)
end Go.Proofs.YtnadlhpkpnfmbaaGreatDoor
