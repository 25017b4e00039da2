/- Contracts of functions, and plain facts, for the law that the last text of this claim proves. -/
import Derived.Test.YtnadlhpkpnfmbaaGreatDoorA6
import Derived.Test.YtnadlhpkpnfmbaaGreatDoorA2
import Derived.Test.YtnadlhpkpnfmbaaGreatDoorA5
import Derived.Test.YtnadlhpkpnfmbaaGreatDoorA1
import Derived.KernelRfl
import Derived.Test.YtnadlhpkpnfmbaaGreatDoorA4
set_option linter.unusedSimpArgs false
set_option linter.unusedVariables false
namespace Go.Proofs.YtnadlhpkpnfmbaaGreatDoor
open Go.Vc Go.RowKit Go.Sei
structure WldH (x:ExD) (q:Option Addr) (c bb mb:Nat) (g:Bs->RelD) (Y:World):Prop where
 f:Y.heap[bb]?=some (.cells (wldC x q c mb).toArray 120 (0,0))
 m:∃ h,MapF keyS Y mb h/\∀ s,(h s).getD (relV zat)=relV (g s)
 w:∀ s,WrdR (g s).to
 v:ExV Y x q
 t:Tz64M Y
section
variable {x:ExD} {q:Option Addr} {c bb mb:Nat} {g:Bs->RelD} {w Y Z:World}
theorem WldH.below (h:WldH x q c bb mb g Y) (hb:Bw Y Z):WldH x q c bb mb g Z:=by
 obtain⟨k,hk,hg⟩:=h.m;exact⟨zab hb h.f,⟨k,hk.below hb,hg⟩,h.w,h.v.below hb,h.t.below hb⟩
def ValC (x:ExD) (q:Option Addr) (c bb mb:Nat) (t:Trm):Prop:=∀ {g:Bs->RelD} {Y:World} {p:Option Addr} {cap:Nat},WldH x q c bb mb g Y->KidsT AllB Y p t.kids->t.name.length<=140737488351232 ->
 Calls Tryz.prog 52 #[At0 bb,.agg (zad t p cap).toArray] Y fun e w'=>e = .returned (.agg (relC (valT x g t)).toArray)/\Bw Y w'/\WrdR (valT x g t).to
theorem zft (x:ExD) (q:Option Addr) (c mb:Nat):(wldC x q c mb)[334]?=some (.map (some mb)):=by
 unfold wldC;rw [JQ (by rw [zay];decide),zay];rfl
theorem zrK (x:ExD) (q:Option Addr) (c mb:Nat):(wldC x q c mb)[333]?=some (i64 (x.ev.length:Nat)):=by
 unfold wldC;rw [JQ (by rw [zay];decide),zay];rfl
theorem zsi (h:WldH x q c bb mb g Y) (s:Bs) {w2:World} (hb:Bw Y w2):(Instr.lookup 118 (.map (some mb)) (strV s) false).run Tryz.prog w2 = .ok (relV (g s)) w2:=by
 obtain⟨k,hk,hg⟩:=h.m;have:=zg2 skey Tryz.underlying118 (z:=relV zat) (zjY (by kernel_rfl)) (hk.below hb) s false;refine this.trans ?_;rw [JZ (by decide),hg]
theorem zn3 (s:Bs) (kids:List Trm):ValC x q c bb mb (.mk 1 s kids):=by
 intro g Y p cap hW hK hl;refine cofM 91 [At0 bb,.agg (zad (.mk 1 s kids) p cap).toArray] (.c .p .p) Tryz.func52 ?_;have hv:valT x g (.mk 1 s kids)=g s:=by rw [valT];rfl
 rw [hv];obtain⟨L,hL⟩:=nm (Y.heap.size);refine⟨Unit,fun _=>⟨[(0,At0 bb),(3,At0 L),(4,At0 (L+1))],[]⟩,fun _ X=>X.heap[L]?=some (.cells (zad (.mk 1 s kids) p cap).toArray 24 (0,0))/\RelH X (L+1) zat/\Bw Y X,?_,?_⟩
 ·obtain⟨W1,e1⟩:=nm (Y.alloc (.cells (zad (.mk 1 s kids) p cap).toArray 24));have n1:W1.heap.size=L+1:=by rw [e1,hL];exact wz _ _
  have f1:W1.heap[L]?=some (.cells (zad (.mk 1 s kids) p cap).toArray 24 (0,0)):=by rw [e1,hL];exact hnew Y _
  have b1:Bw Y W1:=by rw [e1];exact zba _ _
  obtain⟨W2,e2⟩:=nm (W1.alloc (.cells (relC zat).toArray 30));have f2:RelH W2 (L+1) zat:=by rw [e2,<- n1];exact hnew W1 _
  have b2:Bw W1 W2:=by rw [e2];exact zba _ _
  have key:W2.heap[L]?=some (.cells (zad (.mk 1 s kids) p cap).toArray 24 (0,0))/\RelH W2 (L+1) zat/\Bw Y W2:=⟨zab b2 f1,f2,zst b1 b2⟩;rw [e2,e1] at key;refine⟨(),⟨.cons rfl (.cons (by rw [hL];rfl) (.cons ?_ .nil)),rfl⟩,key⟩;show some (At0 (Y.alloc (.cells (zad (.mk 1 s kids) p cap).toArray 24)).heap.size)=_;rw [wz,hL]
 rintro _ X ⟨f1,f0,bX⟩;refine⟨_,zac (zaa f1) (i:=0) rfl,Jn (fun _=>DrawE.ord [7] [0,1,2,3,4,5,6,7] (by kernel_rfl) ?_) (fun h=>Kv (show true=false from h) (by decide))⟩;have hX:=hW.below bX;exact⟨_,zac (zaa (hdr hX.f)) (i:=334) (zft x q c mb),_,zac (zaa (hdr f1)) (i:=1) rfl,_,fun w2 hb=>zsi hX s ((Ja _ X).drew.trans hb),zao (v := .agg (relC (g s)).toArray) k30 (hdr f0) (zae _) (zae _) (zaw _) ⟨relC (g s),zae _,zaa (zal (hdr f0)),rfl,zah bX.drew (by omega) _,hW.w s⟩⟩
end
def IrrC:Prop:=∀ {r:RelD} {Y:World},WrdR r.to->CB 69 #[.agg (relC r).toArray] Y (.bool (irrR r))
def zhW (ls:List LineD) (x:ExD):Bool×Bs×Int:=match zm0 ls x with
 | none=>(false,[],2)
 | some (b,s)=>(b,s,0)
section
variable {x:ExD} {q p:Option Addr} {c cap bb mb L:Nat} {g:Bs->RelD} {w X Y Z:World} {ls:List LineD}
theorem zhb (h:(zbW ls).isSome=true):∀ l∈ls,l.kind<=3/\l.name.length<=16/\VT l.term:=by
 unfold zbW at h
 split at h
 ·cases h
 ·split at h
  ·cases h
  ·rename_i lets e;exact (zdq ls _ _ 0 lets (fun s hs=>by cases hs) (by decide) e).1
theorem zda:WrdR zat.to:=fun i _=>(by show 0<2^64;decide)
theorem zbH {P:Prop} [Decidable P] {a b:RelD} (h1:P->WrdR a.to) (h2:¬ P->WrdR b.to):WrdR (if P then a else b).to:=by
 by_cases h:P
 ·rw [Kc h];exact h1 h
 ·rw [JZ h];exact h2 h
theorem ziu (hv:ExV w x q) (hT:Tz64M w) (s:Bs):WrdR (zdl x s).to:=by
 have hn:=hv.n;have loc:WrdR (locM x).to:=zfB (by omega);have it:∀ r,ze8 x r=true->WrdR (extM x r).to/\WrdR (intM x r).to:=fun r h=>by
  have:=(ze7 h).2.1;exact⟨zfB (by omega),zfB (by omega)⟩
 have idw:WrdR (idR x.ev.length (allM x.ev.length)).to:=zdS fun i _ _=>Nat.lt_of_le_of_lt Nat.and_le_left (zbu _);exact zbH (fun _=>hv.po) fun _=>zbH (fun _=>hv.rf) fun _=>zbH (fun _=>hv.co) fun _=>zbH (fun _=>hv.rm) fun _=>zbH (fun _=>hv.dt) fun _=>zbH (fun _=>hv.ct) fun _=>zbH (fun _=>zbH (fun _=>(zpF hv hT).2) fun _=>zda) fun _=>zbH (fun _=>zbH (fun _=>loc) fun _=>zda) fun _=>zbH (fun _=>idw) fun _=>zbH (fun _=>zbH (fun h=>(it _ h).1) fun _=>zda) fun _=>zbH (fun _=>zbH (fun h=>(it _ h).2) fun _=>zda) fun _=>zda
theorem zkr (s:Bs):(lkD (fun _=>true) (nwI x) s).getD (relV zat)=relV (zdl x s):=by
 unfold zdl;simp only [lkD,nwI,crX,if_true];by_cases h1:s=[112,111]
 ·simp only [Kc h1,Option.getD_some]
 by_cases h2:s=[114,102]
 ·simp only [JZ h1,Kc h2,Option.getD_some]
 by_cases h3:s=[99,111]
 ·simp only [JZ h1,JZ h2,Kc h3,Option.getD_some]
 by_cases h4:s=[114,109,119]
 ·simp only [JZ h1,JZ h2,JZ h3,Kc h4,Option.getD_some]
 by_cases h5:s=[100,97,116,97]
 ·simp only [JZ h1,JZ h2,JZ h3,JZ h4,Kc h5,Option.getD_some]
 by_cases h6:s=[99,116,114,108]
 ·simp only [JZ h1,JZ h2,JZ h3,JZ h4,JZ h5,Kc h6,Option.getD_some]
 by_cases h7:s=[102,114]
 ·simp only [JZ h1,JZ h2,JZ h3,JZ h4,JZ h5,JZ h6,Kc h7,Option.getD_some]
 by_cases h8:s=[108,111,99]
 ·simp only [JZ h1,JZ h2,JZ h3,JZ h4,JZ h5,JZ h6,JZ h7,Kc h8,Option.getD_some]
 by_cases h9:s=[105,100]
 ·simp only [JZ h1,JZ h2,JZ h3,JZ h4,JZ h5,JZ h6,JZ h7,JZ h8,Kc h9,Option.getD_some]
 by_cases h10:s=[101,120,116]
 ·simp only [JZ h1,JZ h2,JZ h3,JZ h4,JZ h5,JZ h6,JZ h7,JZ h8,JZ h9,Kc h10,Option.getD_some]
 by_cases h11:s=[105,110,116]
 ·simp only [JZ h1,JZ h2,JZ h3,JZ h4,JZ h5,JZ h6,JZ h7,JZ h8,JZ h9,JZ h10,Kc h11,Option.getD_some]
 simp only [JZ h1,JZ h2,JZ h3,JZ h4,JZ h5,JZ h6,JZ h7,JZ h8,JZ h9,JZ h10,JZ h11,Option.getD_none]
theorem WldH.put (h:WldH x q c bb mb g Y) (hv:ExV w x q) (hT:Tz64M w) (hb:Bw w Y) (hmb:w.heap.size<=mb) (nq:Bs) {r:RelD} (hr:WrdR r.to) {K:World->Prop} (k:∀ V,WldH x q c bb mb (letR g nq r) V->Bw w V->(∀ (j:Nat) (cs:Array Value) (t:TypeId) (fr:Nat×Nat),Y.heap[j]?=some (Obj.cells cs t fr)->V.heap[j]?=some (Obj.cells cs t fr))->K V) :
  SatR ((Instr.mapUpdate 118 (.map (some mb)) (strV nq) (relV r)).run Tryz.prog Y) fun _ w'=>K w':=by
 obtain⟨f,hf,hg⟩:=h.m;obtain⟨o,hrun,hm⟩:=zbx skey Tryz.underlying118 hf nq (relV r);have hne:∀ j,(∃ (cs:Array Value) (t:TypeId) (fr:Nat×Nat),Y.heap[j]?=some (Obj.cells cs t fr))->j≠mb:=by
  intro j hj0 e;subst e;obtain⟨cs,t,fr,hj⟩:=hj0;obtain⟨es,cl,hh,_⟩:=hf;rw [hh] at hj;cases hj
 have hput:∀ (j:Nat) (cs:Array Value) (t:TypeId) (fr:Nat×Nat),Y.heap[j]?=some (Obj.cells cs t fr)->(Y.putObj mb o).heap[j]?=some (Obj.cells cs t fr):=fun j cs t fr hj=>(zai (hne j ⟨_,_,_,hj⟩)).trans hj;have bV:Bw w (Y.putObj mb o):=zbj hb hmb o;refine⟨_,_,hrun,k _ ⟨hput _ _ _ _ h.f,⟨_,hm,fun s=>?_⟩,fun s=>zbH (fun _=>hr) fun _=>h.w s,hv.below bV,hT.below bV⟩ bV hput⟩;unfold letR;by_cases hs:s=nq
 ·rw [Kc hs,Kc hs];rfl
 ·rw [JZ hs,JZ hs];exact hg s
structure HoM (w:World) (ls:List LineD) (p:Option Addr) (cap:Nat) (x:ExD) (q:Option Addr) (c L:Nat) (X:World):Prop where
 m:X.heap[L]?=some (.cells #[.slice p ls.length cap] 47 (0,0))
 e:ExH X (L+1) x q c
 b:Bw w X
theorem HoM.below (h:HoM w ls p cap x q c L X) (hb:Bw X Y):HoM w ls p cap x q c L Y:=⟨zab hb h.m,zab hb h.e,h.b.trans (hb.mono h.b.size)⟩
theorem zlD (hg:GlobK w) (hM:LinsM AllB w p ls) (hlen:ls.length<=140737488351232) (hv:ExV w x q) (hT:Tz64M w) (hval:∀ bb mb,∀ l∈ls,VT l.term->ValC x q c bb mb l.term) (hirr:∀ l∈ls,l.kind=2->IrrC) :
  CB 29 #[.agg #[.slice p ls.length cap],.agg (exC x q c).toArray] w (.tuple #[.bool (zhW ls x).1,strV (zhW ls x).2.1,i64 (zhW ls x).2.2]):=by
 refine cofM 61 [.agg #[.slice p ls.length cap],.agg (exC x q c).toArray] (.c .p (.c (.s .p .p) (.c .p (.s (.s .p (.b (.l (.s .p (.s .p (.s (.b (.c .p (.c .p (.s .p (.c (.s .p (.b .p)) (.s .p .p)))))) .p)))))) .p)))) Tryz.func29 ?_;obtain⟨L,hL⟩:=nm (w.heap.size);refine⟨Unit,fun _=>⟨[(2,At0 L),(3,At0 (L+1))],[]⟩,fun _ X=>HoM w ls p cap x q c L X,?_,?_⟩
 ·obtain⟨W1,e1⟩:=nm (w.alloc (.cells #[.slice p ls.length cap] 47));have n1:W1.heap.size=L+1:=by rw [e1,hL];exact wz _ _
  have f1:W1.heap[L]?=some (.cells #[.slice p ls.length cap] 47 (0,0)):=by rw [e1,hL];exact hnew w _
  have b1:Bw w W1:=by rw [e1];exact zba _ _
  obtain⟨W2,e2⟩:=nm (W1.alloc (.cells (exC x q c).toArray 37));have f2:ExH W2 (L+1) x q c:=by rw [e2,<- n1];exact hnew W1 _
  have b2:Bw W1 W2:=by rw [e2];exact zba _ _
  have key:HoM w ls p cap x q c L W2:=⟨zab b2 f1,f2,zst b1 b2⟩;rw [e2,e1] at key;refine⟨(),⟨.cons (by rw [hL];rfl) (.cons ?_ .nil),rfl⟩,key⟩;show some (At0 (w.alloc (.cells #[.slice p ls.length cap] 47)).heap.size)=_;rw [wz,hL]
 rintro _ X hX;have no:((zbW ls).isSome&&za0 x)=false->zhW ls x=(false,[],2):=fun h=>by unfold zhW zm0;rw [h];rfl
 refine⟨Unit,fun _=>⟨[(2,At0 L),(3,At0 (L+1))],[]⟩,fun _ X=>HoM w ls p cap x q c L X/\(zbW ls).isSome=true/\za0 x=true,?_,?_⟩
 ·refine⟨_,rfl,zaa hX.m,hlt hX.m,cmo (zlC (cap:=cap) (hg.below hX.b) (hM.below hX.b) hlen) ?_⟩;rintro e Y ⟨rfl,bY⟩;have hY:=hX.below bY;refine biE (fun h=>?_) fun h=>?_
  ·have h:(!(zbW ls).isSome)=true:=h;refine brT ?_;rw [no (by rw [notB h];rfl)];exact⟨rfl,hY.b⟩
  ·have h:(!(zbW ls).isSome)=false:=h;refine⟨exC x q c,zay _ _ _,zaa hY.e,hlt hY.e,cmo (zd5 (hv.below hY.b) (hT.below hY.b)) ?_⟩;rintro e Z ⟨rfl,bZ⟩;have hZ:=hY.below bZ;refine biE (fun h2=>?_) fun h2=>?_
   ·have h2:(!za0 x)=true:=h2;rw [no (by rw [notB h2,JY])];exact⟨rfl,hZ.b⟩
   ·have h2:(!za0 x)=false:=h2;exact⟨(),(cvE rfl rfl),hZ,notF h,notF h2⟩
 clear hX X;rintro _ X ⟨hX,hsome,hright⟩;have hkinds:=zhb hsome;have hres:zhW ls x=((zgJ x (zdl x) ls).1,(zgJ x (zdl x) ls).2,0):=by
  unfold zhW zm0;rw [hsome,hright];rfl
 rw [hres];obtain⟨R,hR⟩:=nm (zgJ x (zdl x) ls);rw [<- hR];refine⟨Nat×Nat,fun y=>⟨[(2,At0 L),(7,At0 y.1)],[]⟩,fun y X=>HoM w ls p cap x q c L X/\w.heap.size<=y.2/\WldH x q c y.1 y.2 (zdl x) X,?_,?_⟩
 ·refine⟨exC x q c,zay _ _ _,zaa hX.e,hlt hX.e,cmo (zg0 (hv.below hX.b) (hT.below hX.b)) ?_⟩;rintro e Y ⟨bb,mb,rfl,h1,h2,f1,m1,b1⟩;have hY:=hX.below b1;exact⟨(bb,mb),(cvE rfl rfl),hY,Jj hX.b.size h2,f1,⟨_,m1,zkr⟩,ziu hv hT,hv.below hY.b,hT.below hY.b⟩
 clear hX X;rintro⟨bb,mb⟩ X ⟨hX,hmb,hW⟩;dsimp only at hmb hW ⊢;refine⟨_,zac (zaa hX.m) (i:=0) rfl,Nat×(Bs->RelD),fun y=>⟨[(2,At0 L),(7,At0 bb),(23,.slice p ls.length cap),(24,i64 (ls.length:Nat)),(25,.int .i64 (y.1:Nat))],[]⟩,fun y X=>HoM w ls p cap x q c L X/\WldH x q c bb mb y.2 X/\y.1<=ls.length/\R=zgJ x y.2 (ls.drop y.1),fun y=>ls.length-y.1,(0,zdl x),(cvE rfl rfl),⟨hX,hW,Jh _,hR⟩,?_⟩;clear hX hW hR hres X;rintro⟨i,g⟩ X ⟨hX,hW,hi,hR⟩;dsimp only at hW hi hR ⊢;refine biE (fun hc=>?_) fun hc=>?_
 ·have hc:(i:Int)<(ls.length:Int):=dT hc;have hil:i<ls.length:=by omega
  rw [JH hil,zgJ] at hR;obtain⟨u,hu⟩:=nm (ls[i]);have hum:u∈ls:=by rw [hu];exact gM hil
  rw [<- hu] at hR;obtain⟨k3,kn,kv⟩:=hkinds u hum;obtain⟨b1,o1,q1,c1,rfl,e1,s1,_,_,m1,kk⟩:=(hM.below hX.b).line hil;rw [<- hu] at e1 m1 kk;refine⟨Nat,fun b9=>⟨[(2,At0 L),(7,At0 bb),(9,At0 b9),(23,.slice (some ⟨b1,o1,none⟩) ls.length cap),(24,i64 (ls.length:Nat)),(25,.int .i64 (i:Nat))],[]⟩,fun b9 Y=>HoM w ls (some ⟨b1,o1,none⟩) cap x q c L Y/\WldH x q c bb mb g Y/\Y.heap[b9]?=some (.cells (zas u.kind u.name u.term q1 c1).toArray 49 (0,0))/\KidsT AllB Y q1 u.term.kids,?_,?_⟩
  ·exact⟨i,rfl,hil,_,rfl,e1,s1,zak (X:=X) (v := .agg (zas u.kind u.name u.term q1 c1).toArray) k49 rfl rfl rfl fun Y hbY fY sY=>⟨X.heap.size,(cvE rfl rfl),hX.below hbY,hW.below hbY,fY,kk.kept hbY⟩⟩
  clear hX hW e1 s1 kk X;rintro b9 X ⟨hX,hW,fx,kk⟩;obtain⟨v,hv'⟩:∃ v,v=valT x g u.term:=⟨_,rfl⟩;rw [<- hv'] at hR;refine⟨Nat,fun b10=>⟨[(2,At0 L),(7,At0 bb),(9,At0 b9),(10,At0 b10),(23,.slice (some ⟨b1,o1,none⟩) ls.length cap),(24,i64 (ls.length:Nat)),(25,.int .i64 (i:Nat))],[]⟩,fun b10 Y=>HoM w ls (some ⟨b1,o1,none⟩) cap x q c L Y/\WldH x q c bb mb g Y/\Y.heap[b9]?=some (.cells (zas u.kind u.name u.term q1 c1).toArray 49 (0,0))/\RelH Y b10 v/\WrdR v.to,?_,?_⟩
  ·have t1:zav X ⟨b9,0+2,none⟩ (zad u.term q1 c1):=za9 (o:=2) (n:=3) fx;refine⟨_,rfl,t1,hlt fx,cmo (hval bb mb u hum kv hW kk m1) ?_⟩;rintro e Y ⟨rfl,bY,hw⟩;rw [<- hv'] at hw ⊢;exact zak (X:=Y) (v := .agg (relC v).toArray) k30 (zae _) (by kernel_rfl) (zaw _) fun Z hbZ fZ sZ=>⟨Y.heap.size,(cvE rfl rfl),(hX.below bY).below hbZ,(hW.below bY).below hbZ,zab hbZ (zab bY fx),fZ,hw⟩
  clear hX hW fx kk X;rintro b10 X ⟨hX,hW,fx,fv,hw⟩;refine⟨Bool×(Bs->RelD),fun y=>⟨[(2,At0 L),(7,At0 bb),(9,At0 b9),(11,.bool y.1),(23,.slice (some ⟨b1,o1,none⟩) ls.length cap),(24,i64 (ls.length:Nat)),(25,.int .i64 (i:Nat))],[]⟩,fun y Y=>HoM w ls (some ⟨b1,o1,none⟩) cap x q c L Y/\WldH x q c bb mb y.2 Y/\Y.heap[b9]?=some (.cells (zas u.kind u.name u.term q1 c1).toArray 49 (0,0))/\R=(if y.1=true then zgJ x y.2 (ls.drop (i+1)) else (false,u.name)),?_,?_⟩
  ·refine⟨_,zac (zaa fx) (i:=0) rfl,biE (fun h0=>?_) fun h0=>?_⟩
   ·have h0:((u.kind:Nat):Int)=0:=dT h0;rw [Kc (by omega)] at hR;have bd:=(Ja X.heap.size X).drew;exact DrawE.ord [7] [0,1,2,3,4,5,6,7] (by kernel_rfl) ⟨_,zac (zaa (hdr hW.f)) (i:=334) (zft x q c mb),_,zac (zaa (hdr fx)) (i:=1) rfl,relC v,zae _,zaa (hdr fv),hlt (hdr fv),WldH.put (hW.below bd) hv hT hX.b.drew hmb u.name hw fun V hV bV keep=>⟨(true,letR g u.name v),(cvE rfl rfl),⟨keep _ _ _ _ (hdr hX.m),keep _ _ _ _ (hdr hX.e),bV⟩,hV,keep _ _ _ _ (hdr fx),hR⟩⟩
   have h0:¬ ((u.kind:Nat):Int)=0:=dF h0;rw [JZ (by omega)] at hR;refine biE (fun h1=>?_) fun h1=>?_
   ·have h1:((u.kind:Nat):Int)=1:=dT h1;rw [Kc (by omega:u.kind=1)] at hR;refine⟨relC v,zae _,zaa fv,hlt fv,cmo (zjb hw (hW.t)) ?_⟩;rintro e Y ⟨rfl,bY⟩;exact⟨(acyR v,g),(cvE rfl rfl),hX.below bY,hW.below bY,zab bY fx,by rw [hR]⟩
   have h1:¬ ((u.kind:Nat):Int)=1:=dF h1;rw [JZ (by omega:¬ u.kind=1)] at hR;refine biE (fun h2=>?_) fun h2=>?_
   ·have h2:((u.kind:Nat):Int)=2:=dT h2;rw [Kc (by omega:u.kind=2)] at hR;refine⟨relC v,zae _,zaa fv,hlt fv,cmo (hirr u hum (by omega) hw) ?_⟩;rintro e Y ⟨rfl,bY⟩;exact⟨(irrR v,g),(cvE rfl rfl),hX.below bY,hW.below bY,zab bY fx,by rw [hR]⟩
   have h2:¬ ((u.kind:Nat):Int)=2:=dF h2;rw [JZ (by omega:¬ u.kind=2)] at hR;refine biE (fun h3=>?_) fun h3=>?_
   ·refine⟨relC v,zae _,zaa fv,hlt fv,cmo (zrE hw) ?_⟩;rintro e Y ⟨rfl,bY⟩;exact⟨(zi2 v,g),(cvE rfl rfl),hX.below bY,hW.below bY,zab bY fx,by rw [hR]⟩
   ·have h3:¬ ((u.kind:Nat):Int)=3:=dF h3;omega
  clear hX hW fx fv hR X;rintro⟨ok,g2⟩ X ⟨hX,hW,fx,hR⟩;dsimp only at hW hR ⊢;refine biE (fun h=>?_) fun h=>?_
  ·have h:(!ok)=true:=h;rw [notB h,JZ (by decide)] at hR;refine DrawE.ord [] [0,1,2,3,4] (by kernel_rfl) ⟨_,zac (zaa (hdr fx)) (i:=1) rfl,?_⟩;rw [hR];exact⟨rfl,hX.b.drew⟩
  ·have h:(!ok)=false:=h;rw [notF h,Kc rfl] at hR;exact nxI (by omega) ⟨(i+1,g2),(cvE rfl rfl),⟨hX,hW,hil,hR⟩,zdc (by omega)⟩
 ·have hc:¬ (i:Int)<(ls.length:Int):=dF hc;rw [JI (by omega),zgJ] at hR;rw [hR];exact⟨rfl,hX.b⟩
end
section
variable {n:Nat} {r:RelD}
theorem zfy (h:okR r=true) (hw:WrdR r.to):RelOk r.n.toNat r:=by
 obtain⟨p0,p48,_⟩:=zaX h;exact⟨by omega,h,hw⟩
theorem zj7 (h:RelOk n r):sqR r=(zbd r (zfl r r).1).1:=by
 have h2:=h.then h;unfold sqR zbd;rw [zh6 h h2];have hn:r.n.toNat=n:=by have:=h.n;omega
 rw [hn];unfold zbD;congr 1;funext i;by_cases hi:i<n
 ·rw [Kc hi,Kc hi];unfold zfl;rw [zh6 h h];show (r.to i|||zcQ r.to (r.to i))=(r.to i|||(if i<n then zcQ r.to (r.to i) else 0));rw [Kc hi]
 ·rw [JZ hi,JZ hi]
theorem RelOk.sq (h:RelOk n r):RelOk n (sqR r):=by rw [zj7 h];exact h.union (h.then h)
theorem zpv (h:RelOk n r) {i j:Nat} (hb:hasM r i j=true) (hi:i<48):hasM (sqR r) i j=true:=by
 rw [zj7 h,zlO h (h.then h) (h.bit hi hb).1,hb];rfl
def zjl:List (Nat×Nat):=(List.range 48).flatMap fun i=>(List.range 48).map fun j=>(i,j)
theorem zqj:zjl.length=2304:=by kernel_rfl
theorem zqi {i j:Nat} (hi:i<48) (hj:j<48):(i,j)∈zjl :=
 List.mem_flatMap.2 ⟨i,Jt.2 hi,JR.2 ⟨j,Jt.2 hj,rfl⟩⟩
theorem zr5 {p:Nat×Nat} (h:p∈zjl):p.1<48/\p.2<48:=by
 obtain⟨i,hi,h⟩:=List.mem_flatMap.1 h;obtain⟨j,hj,rfl⟩:=JR.1 h;exact⟨Jt.1 hi,Jt.1 hj⟩
def cntP (r:RelD):Nat:=(zjl.filter fun p=>hasM r p.1 p.2).length
theorem zsO (r:RelD):cntP r<=2304:=by
 have:=List.length_filter_le (fun p:Nat×Nat=>hasM r p.1 p.2) zjl;rw [zqj] at this;exact this
theorem zsN (h:RelOk n r) (hne:eqR (sqR r) r=false):cntP r<cntP (sqR r):=by
 have hs:=h.sq;have h48:=h.le;have e:zjl.filter (fun p=>hasM r p.1 p.2)=(zjl.filter fun p=>hasM (sqR r) p.1 p.2).filter fun p=>hasM r p.1 p.2:=by
  rw [List.filter_filter];refine List.filter_congr fun p hp=>?_
  cases hb:hasM r p.1 p.2 with
  | false=>rfl
  | true=>rw [zpv h hb (zr5 hp).1];rfl
 unfold cntP;rw [e];refine List.length_filter_lt_length_iff_exists.2 ?_;unfold eqR at hne;rw [Ka (p:=(sqR r).n=r.n) (hs.n.trans h.n.symm),Js,List.all_eq_false] at hne;obtain⟨i,hi,hd⟩:=hne;have hi:=Jt.1 hi;have hd:¬ (sqR r).to i=r.to i:=fun e=>hd (Ka e);obtain⟨j,hj⟩:∃ j,((sqR r).to i).testBit j≠(r.to i).testBit j:=by
  exact Classical.byContradiction fun hn=>hd (Nat.eq_of_testBit_eq fun j=>Classical.byContradiction fun h=>hn ⟨j,h⟩)
 have h1:hasM r i j=false:=by
  cases hb:hasM r i j with
  | false=>rfl
  | true=>exact Kv ((zpv h hb hi).trans hb.symm) hj
 have h2:hasM (sqR r) i j=true:=by
  cases hb:hasM (sqR r) i j with
  | true=>rfl
  | false=>exact Kv (hb.trans h1.symm) hj
 have hb:=hs.bit hi h2;exact⟨(i,j),List.mem_filter.2 ⟨zqi hi (by omega),h2⟩,by show ¬ hasM r i j=true;rw [h1];decide⟩
theorem RelOk.plusF:∀ (f:Nat) {r:RelD},RelOk n r->RelOk n (plusF f r)
 | 0,r,h=>h
 | f+1,r,h=>by
  rw [Go.Proofs.YtnadlhpkpnfmbaaGreatDoor.plusF]
  split
  ·exact h
  ·exact RelOk.plusF f h.sq
theorem RelOk.plus (h:RelOk n r):RelOk n (zcf r):=by
 unfold zcf;rw [Kc h.ok];exact RelOk.plusF 2400 h
end
section
variable {w:World} {r:RelD}
theorem zsq {r:RelD} (hr:WrdR r.to) {s:Nat} (h48:∀ j∈els s,j<48):zcQ r.to s<2^64:=zhV hr (els s) 0 (by decide) h48
theorem zrw {b i:Nat} (f:w.heap[b]?=some (.cells (relC r).toArray 30 (0,0))) (hr:WrdR r.to) (hi:i<48) (h48:∀ j∈els (r.to i),j<48) (hT:Tz64M w) :
  CB 61 (i64 (i:Nat)::[At0 b]).toArray w (s64 (r.to i|||zcQ r.to (r.to i))):=by
 refine cofE 14 (i64 (i:Nat)::[At0 b]) Tryz.func61 ?_;have bd:=(Ja w.heap.size w).drew;refine DrawE.ord [] [0,1,2,3,4,5,6,7,8,9,10] (by kernel_rfl) ⟨i,rfl,hi,_,zbF (hdr f) hi,i,rfl,hi,_,zbF (hdr f) hi,cmo (zmZ (hdr f) hr (hr i hi) h48 (hT.below bd)) ?_⟩;rintro e Y ⟨rfl,hb⟩;exact⟨hb,_,zb9 (hr i hi) (zsq hr h48),rfl,(zst bd hb)⟩
theorem znS (hr:WrdR r.to) (hT:Tz64M w):CB 22 #[.agg (relC r).toArray] w (.agg (relC (zcf r)).toArray):=by
 refine cofM 17 [.agg (relC r).toArray] (.c .p (.s (.s .p .p) (.b (.l (.b (.c .p (.s (.s .p .p) .p))))))) Tryz.func22 ?_;obtain⟨L,hL⟩:=nm (w.heap.size);refine⟨Unit,fun _=>⟨[(1,At0 L),(2,At0 (L+1))],[]⟩,fun _ X=>RelH X L r/\RelH X (L+1) zat/\Bw w X,?_,?_⟩
 ·obtain⟨W1,e1⟩:=nm (w.alloc (.cells (relC r).toArray 30));have n1:W1.heap.size=L+1:=by rw [e1,hL];exact wz _ _
  have f1:RelH W1 L r:=by rw [e1,hL];exact hnew w _
  have b1:Bw w W1:=by rw [e1];exact zba _ _
  obtain⟨W2,e2⟩:=nm (W1.alloc (.cells (relC zat).toArray 30));have f2:RelH W2 (L+1) zat:=by rw [e2,<- n1];exact hnew W1 _
  have b2:Bw W1 W2:=by rw [e2];exact zba _ _
  have key:RelH W2 L r/\RelH W2 (L+1) zat/\Bw w W2:=⟨zab b2 f1,f2,zst b1 b2⟩;rw [e2,e1] at key;refine⟨(),⟨.cons (by rw [hL];rfl) (.cons ?_ .nil),rfl⟩,key⟩;show some (At0 (w.alloc (.cells (relC r).toArray 30)).heap.size)=_;rw [wz,hL]
 rintro _ X ⟨f0,f1,hbX⟩;refine⟨relC r,zae _,zaa f0,hlt f0,cmo (zaV hr) ?_⟩;rintro e Y ⟨rfl,hbY⟩;have bY:=zst hbX hbY;have g0:=zab hbY f0;have g1:=zab hbY f1;refine biE (fun h=>?_) fun h=>?_
 ·have h:(!okR r)=true:=h;have e:zcf r=zat:=by unfold zcf;rw [JZ (by rw [notB h];decide)]
  rw [e];refine⟨relC zat,by kernel_rfl,?_⟩;exact zaS g1 (by omega) bY fun Z fZ bZ=>⟨relC zat,zae _,zaa fZ,rfl,bZ⟩
 have h:(!okR r)=false:=h;have hok:okR r=true:=notF h;obtain⟨n,hn⟩:=nm (r.n.toNat);have hR:RelOk n r:=by rw [hn];exact zfy hok hr
 have e:zcf r=plusF 2400 r:=by unfold zcf;rw [Kc hok]
 rw [e];obtain⟨R,hRR⟩:=nm (plusF 2400 r);rw [<- hRR];refine⟨RelD×Nat,fun y=>⟨[(1,At0 L),(2,At0 (L+1))],[]⟩,fun y X=>RelH X L y.1/\RelH X (L+1) zat/\Bw w X/\RelOk n y.1/\R=plusF y.2 y.1/\2400<=cntP y.1+y.2,fun y=>y.2,(r,2400),(cvE rfl rfl),⟨g0,g1,bY,hR,hRR,by omega⟩,?_⟩;clear g0 g1 bY hRR e hbY f0 f1 hbX hR hok;rintro⟨c,f⟩ X ⟨g0,g1,bX,hR,hRR,hf⟩;dsimp only at g0 hR hRR hf ⊢;have hcl:=zsO c;obtain⟨f',rfl⟩:∃ f',f=f'+1:=⟨f-1,by omega⟩;have h48:=hR.le;refine⟨Nat,fun b3=>⟨[(1,At0 L),(2,At0 (L+1)),(3,At0 b3)],[]⟩,fun b3 Z=>RelH Z L c/\RelH Z (L+1) zat/\RelH Z b3 (sqR c)/\Bw w Z,?_,?_⟩
 ·refine⟨i64 c.n,by have:=zac (zaa g0) (i:=0) (v:=i64 c.n) rfl;exact this,?_⟩;have en:(c.n:Int)=((n:Nat):Int):=hR.n;rw [en];refine cmo (zh7 (n:=n) (row:=fun a=>c.to a|||zcQ c.to (c.to a)) h48 (by kernel_rfl) fun a V ha hV=>?_) ?_
  ·exact zrw (zab hV g0) hR.w (by omega) (fun j hj=>(zhB hR.ok hR.w (by omega) j hj).2) ((hT.below bX).below hV)
  rintro e V ⟨rfl,bV⟩;have es:zbD n (fun a=>c.to a|||zcQ c.to (c.to a))=sqR c:=by unfold sqR;rw [en,Int.toNat_natCast]
  rw [es];refine zak (X:=V) (v := .agg (relC (sqR c)).toArray) k30 (zae _) (by kernel_rfl) (zaw _) fun Z hbZ fZ sZ=>?_;have b1:=zst bX bV;exact⟨V.heap.size,(cvE rfl rfl),zab hbZ (zab bV g0),zab hbZ (zab bV g1),fZ,zst b1 hbZ⟩
 clear g0 g1 bX X;rintro b3 X ⟨g0,g1,g3,bX⟩;rw [plusF] at hRR;refine⟨relC (sqR c),zae _,zaa g3,hlt g3,relC c,zae _,zaa g0,hlt g0,_,fun w=>zh3 _ _ _ _ w,biE (fun h=>?_) fun h=>?_⟩
 ·have h:eqR (sqR c) c=true:=h;rw [Kc h] at hRR;refine⟨relC c,zae _,zaa g0,hlt g0,?_⟩;rw [hRR];exact zaS g1 (by omega) bX fun Z fZ bZ=>⟨relC c,zae _,zaa fZ,rfl,bZ⟩
 ·have h:eqR (sqR c) c=false:=h;rw [JZ (by rw [h];decide)] at hRR;have hc:=zsN hR h;exact⟨relC (sqR c),zae _,zaa g3,hlt g3,zao (v := .agg (relC (sqR c)).toArray) k30 g0 (zae _) (zae _) (zaw _) ⟨(sqR c,f'),(cvE rfl rfl),⟨zal g0,(zam (by omega)).trans g1,zah bX (by omega) _,hR.sq,hRR,by show 2400<=cntP (sqR c)+f';omega⟩,by show f'<f'+1;omega⟩⟩
end
section
variable {n:Nat} {w:World} {r:RelD}
theorem RelOk.idr (h:n<=48) (s:Nat):RelOk n (idR n s) := .of rfl h (fun i j hi hb=>by
  unfold idR at hb;rw [zeQ,bAT,dE,Nat.testBit_and,Nat.testBit_two_pow,bAT,dE] at hb;obtain⟨h1,_,h2⟩:=hb;omega) (zdS fun i _ h=>Nat.lt_of_le_of_lt Nat.and_le_right (zaH (by omega)))
theorem RelOk.star (h:RelOk n r):RelOk n (zfm r):=by
 unfold zfm;rw [Kc h.ok];have hn:r.n.toNat=n:=by have:=h.n;omega
 rw [hn];exact h.plus.union (.idr h.le _)
abbrev zRel:Obj := .cells (zt30).toArray 30
theorem zs3 (hr:WrdR r.to) (hT:Tz64M w):CB 23 #[.agg (relC r).toArray] w (.agg (relC (zfm r)).toArray):=by
 refine cofM 22 [.agg (relC r).toArray] (.c .p (.s (.s .p .p) (.c .p .p))) Tryz.func23 ?_;obtain⟨L,hL⟩:=nm (w.heap.size);refine⟨Unit,fun _=>⟨[(1,At0 L),(2,At0 (L+1))],[]⟩,fun _ X=>RelH X L r/\RelH X (L+1) zat/\Bw w X,?_,?_⟩
 ·obtain⟨W1,e1⟩:=nm (w.alloc (.cells (relC r).toArray 30));have n1:W1.heap.size=L+1:=by rw [e1,hL];exact wz _ _
  have f1:RelH W1 L r:=by rw [e1,hL];exact hnew w _
  have b1:Bw w W1:=by rw [e1];exact zba _ _
  obtain⟨W2,e2⟩:=nm (W1.alloc (.cells (relC zat).toArray 30));have f2:RelH W2 (L+1) zat:=by rw [e2,<- n1];exact hnew W1 _
  have b2:Bw W1 W2:=by rw [e2];exact zba _ _
  have key:RelH W2 L r/\RelH W2 (L+1) zat/\Bw w W2:=⟨zab b2 f1,f2,zst b1 b2⟩;rw [e2,e1] at key;refine⟨(),⟨.cons (by rw [hL];rfl) (.cons ?_ .nil),rfl⟩,key⟩;show some (At0 (w.alloc (.cells (relC r).toArray 30)).heap.size)=_;rw [wz,hL]
 rintro _ X ⟨f0,f1,hbX⟩;refine⟨relC r,zae _,zaa f0,hlt f0,cmo (zaV hr) ?_⟩;rintro e Y ⟨rfl,hbY⟩;have bY:=zst hbX hbY;have g0:=zab hbY f0;have g1:=zab hbY f1;refine biE (fun h=>?_) fun h=>?_
 ·have h:(!okR r)=true:=h;have e:zfm r=zat:=by unfold zfm;rw [JZ (by rw [notB h];decide)]
  rw [e];refine⟨relC zat,by kernel_rfl,?_⟩;exact zaS g1 (by omega) bY fun Z fZ bZ=>⟨relC zat,zae _,zaa fZ,rfl,bZ⟩
 have h:(!okR r)=false:=h;have hok:okR r=true:=notF h;obtain⟨n,hn⟩:=nm (r.n.toNat);have hR:RelOk n r:=by rw [hn];exact zfy hok hr
 have h48:=hR.le;have en:(r.n:Int)=((n:Nat):Int):=hR.n;have e:zfm r=(zbd (zcf r) (idR n (allN n))).1:=by
  unfold zfm;rw [Kc hok,<- hn,en];rfl
 rw [e];refine⟨Nat,fun b3=>⟨[(2,At0 (L+1)),(3,At0 b3)],[]⟩,fun b3 Z=>RelH Z (L+1) zat/\RelH Z b3 (zbd (zcf r) (idR n (allN n))).1/\Bw w Z,?_,?_⟩
 ·clear f0 f1 hbX hbY;have bd:=(Ja Y.heap.size Y).drew;have hc:Y.drew.cell? ⟨L,0+0,none⟩=some (i64 (n:Nat)):=by rw [<- en];exact zac (zaa (hdr g0)) (i:=0) rfl
  have hw1:=hR.plus.w;have hw2:=(RelOk.idr h48 (allN n)).w;refine DrawE.treeQ [13] (.op 0 (.op 2 (.op 3 (.op 4 (.op 5 (.alt (.op 1 (.alt (.op 6 (.alt (.op 7 (.alt (.op 8 (.op 9 (.op 10 (.op 11 (.op 12 (.op 13 (.op 14 (.nil)))))))) (.op 12 (.op 8 (.op 9 (.op 10 (.op 11 (.op 13 (.op 14 (.nil)))))))))) (.op 12 (.op 7 (.op 8 (.op 9 (.op 10 (.op 11 (.op 13 (.op 14 (.nil))))))))))) (.op 12 (.op 6 (.op 7 (.op 8 (.op 9 (.op 10 (.op 11 (.op 13 (.op 14 (.nil)))))))))))) (.op 12 (.op 1 (.op 6 (.op 7 (.op 8 (.op 9 (.op 10 (.op 11 (.op 13 (.op 14 (.nil))))))))))))))))) (by kernel_rfl) ⟨relC r,zae _,zaa (hdr g0),hlt (hdr g0),_,hc,_,hc,?_⟩;have b0:Bw Y Y.drew:=bd;refine Jn ?_ ?_
  ·refine cmo (znS hr (hT.below ((zst bY b0)))) ?_;rintro e V1 ⟨rfl,v⟩;refine⟨v,?_⟩;have b1:=zst b0 v;clear v;refine Jn ?_ ?_
   ·refine cmo zgL ?_;rintro e _ ⟨rfl,hh⟩;subst hh;refine⟨Ja _ _,Jn ?_ ?_⟩
    ·refine cmo (Id_c h48 (zbu _)) ?_;rintro e V2 ⟨rfl,v⟩;refine⟨v,?_⟩;have b2:=zst b1 v;clear v;refine Jn ?_ ?_
     ·refine cmo (zfc hw1 hw2) ?_;rintro e V3 ⟨rfl,v⟩;refine⟨v,?_⟩;have b3:=zst b2 v;clear v;refine⟨zba _ _,?_⟩;have v:Bw V3 (V3.alloc zRel):=zba _ _;have fz:RelH (V3.alloc zRel) V3.heap.size zat:=hnew V3 zRel;have lz:Y.heap.size<=V3.heap.size:=b3.size;have b4:=zst b3 v;clear v;refine zao (v := .agg (relC (zbd (zcf r) (idR n (allN n))).1).toArray) k30 fz (zae _) (zae _) (zaw _) ?_;have bs:=zah ((zst bY b4)) (g:=V3.heap.size) (Jj bY.size lz) (relC (zbd (zcf r) (idR n (allN n))).1).toArray;exact⟨V3.heap.size,(cvE rfl rfl),(zam (by have:=hlt g1;omega)).trans (zab b4 g1),zal fz,bs⟩
     ·refine⟨zba _ _,?_⟩;have v:Bw V2 (V2.alloc zRel):=zba _ _;have fz:RelH (V2.alloc zRel) V2.heap.size zat:=hnew V2 zRel;have lz:Y.heap.size<=V2.heap.size:=b2.size;have b3:=zst b2 v;clear v;refine cmo (zfc hw1 hw2) ?_;rintro e V4 ⟨rfl,v⟩;refine⟨v,?_⟩;have b4:=zst b3 v;have fz:=zab v fz;clear v;refine zao (v := .agg (relC (zbd (zcf r) (idR n (allN n))).1).toArray) k30 fz (zae _) (zae _) (zaw _) ?_;have bs:=zah ((zst bY b4)) (g:=V2.heap.size) (Jj bY.size lz) (relC (zbd (zcf r) (idR n (allN n))).1).toArray;exact⟨V2.heap.size,(cvE rfl rfl),(zam (by have:=hlt g1;omega)).trans (zab b4 g1),zal fz,bs⟩
    ·refine⟨zba _ _,?_⟩;have v:Bw V1 (V1.alloc zRel):=zba _ _;have fz:RelH (V1.alloc zRel) V1.heap.size zat:=hnew V1 zRel;have lz:Y.heap.size<=V1.heap.size:=b1.size;have b2:=zst b1 v;clear v;refine cmo (Id_c h48 (zbu _)) ?_;rintro e V3 ⟨rfl,v⟩;refine⟨v,?_⟩;have b3:=zst b2 v;have fz:=zab v fz;clear v;refine cmo (zfc hw1 hw2) ?_;rintro e V4 ⟨rfl,v⟩;refine⟨v,?_⟩;have b4:=zst b3 v;have fz:=zab v fz;clear v;refine zao (v := .agg (relC (zbd (zcf r) (idR n (allN n))).1).toArray) k30 fz (zae _) (zae _) (zaw _) ?_;have bs:=zah ((zst bY b4)) (g:=V1.heap.size) (Jj bY.size lz) (relC (zbd (zcf r) (idR n (allN n))).1).toArray;exact⟨V1.heap.size,(cvE rfl rfl),(zam (by have:=hlt g1;omega)).trans (zab b4 g1),zal fz,bs⟩
   ·refine⟨zba _ _,?_⟩;have v:Bw V1 (V1.alloc zRel):=zba _ _;have fz:RelH (V1.alloc zRel) V1.heap.size zat:=hnew V1 zRel;have lz:Y.heap.size<=V1.heap.size:=b1.size;have b2:=zst b1 v;clear v;refine cmo zgL ?_;rintro e _ ⟨rfl,hh⟩;subst hh;refine⟨Ja _ _,cmo (Id_c h48 (zbu _)) ?_⟩;rintro e V3 ⟨rfl,v⟩;refine⟨v,?_⟩;have b3:=zst b2 v;have fz:=zab v fz;clear v;refine cmo (zfc hw1 hw2) ?_;rintro e V4 ⟨rfl,v⟩;refine⟨v,?_⟩;have b4:=zst b3 v;have fz:=zab v fz;clear v;refine zao (v := .agg (relC (zbd (zcf r) (idR n (allN n))).1).toArray) k30 fz (zae _) (zae _) (zaw _) ?_;have bs:=zah ((zst bY b4)) (g:=V1.heap.size) (Jj bY.size lz) (relC (zbd (zcf r) (idR n (allN n))).1).toArray;exact⟨V1.heap.size,(cvE rfl rfl),(zam (by have:=hlt g1;omega)).trans (zab b4 g1),zal fz,bs⟩
  ·refine⟨zba _ _,?_⟩;have v:Below Y.drew.heap.size Y.drew (Y.drew.alloc zRel):=zba _ _;have fz:RelH (Y.drew.alloc zRel) Y.drew.heap.size zat:=hnew Y.drew zRel;have lz:Y.heap.size<=Y.drew.heap.size:=b0.size;have b1:=zst b0 v;clear v;refine cmo (znS hr (hT.below ((zst bY b1)))) ?_;rintro e V2 ⟨rfl,v⟩;refine⟨v,?_⟩;have b2:=zst b1 v;have fz:=zab v fz;clear v;refine cmo zgL ?_;rintro e _ ⟨rfl,hh⟩;subst hh;refine⟨Ja _ _,cmo (Id_c h48 (zbu _)) ?_⟩;rintro e V3 ⟨rfl,v⟩;refine⟨v,?_⟩;have b3:=zst b2 v;have fz:=zab v fz;clear v;refine cmo (zfc hw1 hw2) ?_;rintro e V4 ⟨rfl,v⟩;refine⟨v,?_⟩;have b4:=zst b3 v;have fz:=zab v fz;clear v;refine zao (v := .agg (relC (zbd (zcf r) (idR n (allN n))).1).toArray) k30 fz (zae _) (zae _) (zaw _) ?_;have bs:=zah ((zst bY b4)) (g:=Y.drew.heap.size) (Jj bY.size lz) (relC (zbd (zcf r) (idR n (allN n))).1).toArray;exact⟨Y.drew.heap.size,(cvE rfl rfl),(zam (by have:=hlt g1;omega)).trans (zab b4 g1),zal fz,bs⟩
 clear f0 f1 hbX hbY g0 g1 bY hT;rintro b3 X ⟨g1,g3,bX⟩;exact⟨relC (zbd (zcf r) (idR n (allN n))).1,zae _,zaa g3,hlt g3,zaS g1 (by omega) bX fun Z fZ bZ=>⟨relC (zbd (zcf r) (idR n (allN n))).1,zae _,zaa fZ,rfl,bZ⟩⟩
end
def inS (rd wr fe:Bool) (m:UInt8) (th:Int) (s:Bs):Bool :=
 if s=[82] then rd
 else if s=[87] then wr
 else if s=[70] then fe
 else if s=[77] then rd||wr
 else if s=[65] then rd&&(decide (m=1)||decide (m=3))
 else if s=[76] then wr&&(decide (m=2)||decide (m=3))
 else if s=[88] then (rd||wr)&&decide (m=3)
 else if s=[70,70] then fe&&decide (m=3)
 else if s=[70,76] then fe&&decide (m=4)
 else if s=[70,83] then fe&&decide (m=5)
 else if s=[73] then decide (th = -1)
 else false
theorem zsp (e:Ev) (s:Bs):zjF e s=inS (decide (e.k=1)) (decide (e.k=2)) (decide (e.k=3)) e.m e.th s:=rfl
section
variable {w:World} {e:Ev} {s:Bs}
theorem znI:Calls Tryz.prog 149 #[.agg (evE.enc e).toArray,strV s] w fun r w'=>r = .returned (.bool (zjF e s))/\Bw w w':=by
 refine cofM 99 [.agg (evE.enc e).toArray,strV s] (.c .p (.c .p .p)) Tryz.func149 ?_;rw [zsp];obtain⟨L,hL⟩:=nm (w.heap.size);refine⟨Unit,fun _=>⟨[(1,strV s),(2,At0 L)],[]⟩,fun _ X=>X.heap[L]?=some (.cells (evE.enc e).toArray 158 (0,0))/\Bw w X,⟨(),⟨.cons rfl (.cons (by rw [hL];rfl) .nil),rfl⟩,by rw [hL];exact hnew w _,zba _ _⟩,?_⟩;rintro _ X ⟨f,hb⟩;obtain⟨rd,hrd⟩:=nm (decide (e.k=1));obtain⟨wr,hwr⟩:=nm (decide (e.k=2));obtain⟨fe,hfe⟩:=nm (decide (e.k=3));rw [<- hrd,<- hwr,<- hfe];refine⟨Unit,fun _=>⟨[(1,strV s),(2,At0 L),(5,.bool rd),(6,.bool wr),(7,.bool fe)],[]⟩,fun _ X=>X.heap[L]?=some (.cells (evE.enc e).toArray 158 (0,0))/\Bw w X,?_,?_⟩
 ·refine DrawE.ord [] [0,1,2,3,4,5,6,7,8,9,10,11] (by kernel_rfl) ⟨u8 e.k,zac (zaa (hdr f)) (i:=1) rfl,u8 e.k,zac (zaa (hdr f)) (i:=1) rfl,u8 e.k,zac (zaa (hdr f)) (i:=1) rfl,?_⟩;have c1:decide ((e.k.toNat:Int)=1)=rd:=by rw [hrd];exact zbq e.k 1
  have c2:decide ((e.k.toNat:Int)=2)=wr:=by rw [hwr];exact zbq e.k 2
  have c3:decide ((e.k.toNat:Int)=3)=fe:=by rw [hfe];exact zbq e.k 3
  exact⟨(),⟨.cons rfl (.cons rfl (.cons (congrArg (fun b=>some (Value.bool b)) c1) (.cons (congrArg (fun b=>some (Value.bool b)) c2) (.cons (congrArg (fun b=>some (Value.bool b)) c3) .nil)))),rfl⟩,hdr f,hb.drew⟩
 clear f hb X;rintro _ X ⟨f,hb⟩;have m1:decide ((e.m.toNat:Int)=1)=decide (e.m=1):=zbq e.m 1;have m2:decide ((e.m.toNat:Int)=2)=decide (e.m=2):=zbq e.m 2;have m3:decide ((e.m.toNat:Int)=3)=decide (e.m=3):=zbq e.m 3;have m4:decide ((e.m.toNat:Int)=4)=decide (e.m=4):=zbq e.m 4;have m5:decide ((e.m.toNat:Int)=5)=decide (e.m=5):=zbq e.m 5;refine⟨_,fun w=>zax _ _ s [82] w,biE (fun h=>?_) fun h=>?_⟩
 ·obtain rfl:s=[82]:=dT h;exact⟨rfl,hb⟩
 have h0:¬ s=[82]:=dF h;clear h;refine⟨_,fun w=>zax _ _ s [87] w,biE (fun h=>?_) fun h=>?_⟩
 ·obtain rfl:s=[87]:=dT h;exact⟨rfl,hb⟩
 have h1:¬ s=[87]:=dF h;clear h;refine⟨_,fun w=>zax _ _ s [70] w,biE (fun h=>?_) fun h=>?_⟩
 ·obtain rfl:s=[70]:=dT h;exact⟨rfl,hb⟩
 have h2:¬ s=[70]:=dF h;clear h;refine⟨_,fun w=>zax _ _ s [77] w,biE (fun h=>?_) fun h=>?_⟩
 ·obtain rfl:s=[77]:=dT h;refine biE (fun k=>?_) fun k=>?_
  ·have k:rd=true:=k;exact⟨rb (by show _=(rd||wr);rw [k];rfl),hb⟩
  ·have k:rd=false:=k;exact⟨rb (by show _=(rd||wr);rw [k];rfl),hb⟩
 have h3:¬ s=[77]:=dF h;clear h;refine⟨_,fun w=>zax _ _ s [65] w,biE (fun h=>?_) fun h=>?_⟩
 ·obtain rfl:s=[65]:=dT h;refine biE (fun k=>?_) fun k=>?_
  ·have k:rd=true:=k;refine⟨u8 e.m,zac (zaa f) (i:=4) rfl,biE (fun q=>?_) fun q=>?_⟩
   ·have q:decide (e.m=1)=true:=m1.symm.trans q;exact⟨rb (by show _=(rd&&(decide (e.m=1)||decide (e.m=3)));rw [k,q];rfl),hb⟩
   ·have q:decide (e.m=1)=false:=m1.symm.trans q;exact⟨u8 e.m,zac (zaa f) (i:=4) rfl,rb (by show _=(rd&&(decide (e.m=1)||decide (e.m=3)));rw [k,q,<- m3];rfl),hb⟩
  ·have k:rd=false:=k;exact⟨rb (by show _=(rd&&(decide (e.m=1)||decide (e.m=3)));rw [k];rfl),hb⟩
 have h4:¬ s=[65]:=dF h;clear h;refine⟨_,fun w=>zax _ _ s [76] w,biE (fun h=>?_) fun h=>?_⟩
 ·obtain rfl:s=[76]:=dT h;refine biE (fun k=>?_) fun k=>?_
  ·have k:wr=true:=k;refine⟨u8 e.m,zac (zaa f) (i:=4) rfl,biE (fun q=>?_) fun q=>?_⟩
   ·have q:decide (e.m=2)=true:=m2.symm.trans q;exact⟨rb (by show _=(wr&&(decide (e.m=2)||decide (e.m=3)));rw [k,q];rfl),hb⟩
   ·have q:decide (e.m=2)=false:=m2.symm.trans q;exact⟨u8 e.m,zac (zaa f) (i:=4) rfl,rb (by show _=(wr&&(decide (e.m=2)||decide (e.m=3)));rw [k,q,<- m3];rfl),hb⟩
  ·have k:wr=false:=k;exact⟨rb (by show _=(wr&&(decide (e.m=2)||decide (e.m=3)));rw [k];rfl),hb⟩
 have h5:¬ s=[76]:=dF h;clear h;refine⟨_,fun w=>zax _ _ s [88] w,biE (fun h=>?_) fun h=>?_⟩
 ·obtain rfl:s=[88]:=dT h;refine biE (fun k=>?_) fun k=>?_
  ·have k:rd=true:=k;exact brT ⟨u8 e.m,zac (zaa f) (i:=4) rfl,rb (by show _=((rd||wr)&&decide (e.m=3));rw [k,<- m3];rfl),hb⟩
  ·have k:rd=false:=k;refine biE (fun q=>?_) fun q=>?_
   ·have q:wr=true:=q;exact⟨u8 e.m,zac (zaa f) (i:=4) rfl,rb (by show _=((rd||wr)&&decide (e.m=3));rw [k,q,<- m3];rfl),hb⟩
   ·have q:wr=false:=q;exact⟨rb (by show _=((rd||wr)&&decide (e.m=3));rw [k,q];rfl),hb⟩
 have h6:¬ s=[88]:=dF h;clear h;refine⟨_,fun w=>zax _ _ s [70,70] w,biE (fun h=>?_) fun h=>?_⟩
 ·obtain rfl:s=[70,70]:=dT h;refine biE (fun k=>?_) fun k=>?_
  ·have k:fe=true:=k;exact⟨u8 e.m,zac (zaa f) (i:=4) rfl,rb (by show _=(fe&&decide (e.m=3));rw [k,<- m3];rfl),hb⟩
  ·have k:fe=false:=k;exact⟨rb (by show _=(fe&&decide (e.m=3));rw [k];rfl),hb⟩
 have h7:¬ s=[70,70]:=dF h;clear h;refine⟨_,fun w=>zax _ _ s [70,76] w,biE (fun h=>?_) fun h=>?_⟩
 ·obtain rfl:s=[70,76]:=dT h;refine biE (fun k=>?_) fun k=>?_
  ·have k:fe=true:=k;exact⟨u8 e.m,zac (zaa f) (i:=4) rfl,rb (by show _=(fe&&decide (e.m=4));rw [k,<- m4];rfl),hb⟩
  ·have k:fe=false:=k;exact⟨rb (by show _=(fe&&decide (e.m=4));rw [k];rfl),hb⟩
 have h8:¬ s=[70,76]:=dF h;clear h;refine⟨_,fun w=>zax _ _ s [70,83] w,biE (fun h=>?_) fun h=>?_⟩
 ·obtain rfl:s=[70,83]:=dT h;refine biE (fun k=>?_) fun k=>?_
  ·have k:fe=true:=k;exact⟨u8 e.m,zac (zaa f) (i:=4) rfl,rb (by show _=(fe&&decide (e.m=5));rw [k,<- m5];rfl),hb⟩
  ·have k:fe=false:=k;exact⟨rb (by show _=(fe&&decide (e.m=5));rw [k];rfl),hb⟩
 have h9:¬ s=[70,83]:=dF h;clear h;refine⟨_,fun w=>zax _ _ s [73] w,biE (fun h=>?_) fun h=>?_⟩
 ·obtain rfl:s=[73]:=dT h;exact⟨i64 e.th,zac (zaa f) (i:=0) rfl,rfl,hb⟩
 have h10:¬ s=[73]:=dF h;clear h;refine⟨rb ?_,hb⟩;unfold inS;rw [JZ h0,JZ h1,JZ h2,JZ h3,JZ h4,JZ h5,JZ h6,JZ h7,JZ h8,JZ h9,JZ h10]
end
section
variable {x:ExD} {q:Option Addr} {c bb mb:Nat} {g:Bs->RelD} {w Y Z:World}
def memS (x:ExD) (s:Bs) (i:Nat):Bool:=match x.ev[i]? with | some e=>zjF e s | none=>false
theorem zp7 (x:ExD) (s:Bs):setM x s=orG ((List.range x.ev.length).filter (memS x s)):=rfl
theorem zrV (hW:WldH x q c bb mb g w) (s:Bs):CB 102 #[At0 bb,strV s] w (s64 (setM x s)):=by
 refine cofM 35 [At0 bb,strV s] (.s .p (.s .p (.s (.s .p (.b (.l (.s .p (.s .p (.s (.b (.c .p (.c .p .p))) .p)))))) .p))) Tryz.func102 ?_;have hn:=hW.v.n;refine⟨_,zac (zaa hW.f) (i:=0) (v := .slice q x.ev.length c) rfl,Nat×Option Addr×Nat,fun y=>⟨[(0,At0 bb),(1,strV s),(5,.slice y.2.1 ((List.range y.1).filter (memS x s)).length y.2.2),(14,.slice q x.ev.length c),(15,i64 (x.ev.length:Nat)),(16,.int .i64 (y.1:Nat))],[]⟩,fun y X=>OwnS natE 3 w.heap.size X y.2.1 y.2.2 ((List.range y.1).filter (memS x s))/\Bw w X/\y.1<=x.ev.length,fun y=>x.ev.length-y.1,(0,none,0),(cvE rfl rfl),⟨OwnS.nil,Ja _ _,Jh _⟩,?_⟩;rintro⟨i,p,cp⟩ X ⟨ho,hb,hi⟩;dsimp only at ho hi ⊢;have hl:((List.range i).filter (memS x s)).length<=i:=Jj (List.length_filter_le _ _) (by rw [Kf];exact Jb _);refine biE (fun hc=>?_) fun hc=>?_
 ·have hc:(i:Int)<(x.ev.length:Int):=dT hc;have hil:i<x.ev.length:=by omega
  obtain⟨b,o,rfl,hbl,hev⟩:=zdO (hW.v.ev.below hb) hil;obtain⟨e,he⟩:=nm (x.ev.getD i ev0);rw [<- he] at hev;have hm:memS x s i=zjF e s:=by
   unfold memS;rw [he,gDe,gE hil];rfl
  refine⟨Nat,fun b7=>⟨[(0,At0 bb),(1,strV s),(5,.slice p ((List.range i).filter (memS x s)).length cp),(6,i64 (i:Nat)),(7,At0 b7),(14,.slice (some ⟨b,o,none⟩) x.ev.length c),(15,i64 (x.ev.length:Nat)),(16,.int .i64 (i:Nat))],[]⟩,fun b7 V=>V.heap[b7]?=some (.cells (evE.enc e).toArray 158 (0,0))/\OwnS natE 3 w.heap.size V p cp ((List.range i).filter (memS x s))/\Bw w V,?_,?_⟩
  ·exact⟨i,rfl,hil,evE.enc e,rfl,hev,hbl,zak (X:=X) (v := .agg (evE.enc e).toArray) k158 rfl rfl rfl fun V hbV fV sV=>⟨X.heap.size,(cvE rfl rfl),fV,ho.below hbV,zst hb hbV⟩⟩
  clear ho hb hev hbl X;rintro b7 X ⟨f7,ho,hb⟩;refine⟨Bool,fun v=>⟨[(0,At0 bb),(1,strV s),(5,.slice p ((List.range i).filter (memS x s)).length cp),(6,i64 (i:Nat)),(14,.slice (some ⟨b,o,none⟩) x.ev.length c),(15,i64 (x.ev.length:Nat)),(16,.int .i64 (i:Nat)),(23,.bool v)],[]⟩,fun v V=>v=zjF e s/\OwnS natE 3 w.heap.size V p cp ((List.range i).filter (memS x s))/\Bw w V,?_,?_⟩
  ·refine⟨evE.enc e,rfl,zaa f7,hlt f7,cmo (znI (e:=e) (s:=s)) ?_⟩;rintro r V ⟨rfl,bV⟩;exact⟨zjF e s,(cvE rfl rfl),rfl,ho.below bV,zst hb bV⟩
  clear f7 ho hb X;rintro v X ⟨hv,ho,hb⟩;have hsz:=hb.size;refine biE (fun h=>?_) fun h=>?_
  ·have h:v=true:=h;have hmt:memS x s i=true:=by rw [hm,<- hv,h]
   have er:(List.range (i+1)).filter (memS x s)=(List.range i).filter (memS x s)++[i]:=by
    rw [Ku,List.filter_append,List.filter_cons,hmt];rfl
   refine⟨⟨by decide,by decide,rfl⟩,natE.enc i,rfl,?_⟩;have hba:Bw X (X.alloc (.cells (natE.enc i).toArray 3)):=zba _ _;have sa:(X.alloc (.cells (natE.enc i).toArray 3)).heap.size=X.heap.size+1:=wz _ _;refine zbp (E:=natE) (T:=3) (B:=w.heap.size) (l:=(List.range i).filter (memS x s)) (news:=[i]) (cap:=cp) (m:=1) Tryz.underlying128 k3 rfl rfl rfl (ho.below hba) rfl (za2 natE i) (by omega) (by omega) (by show (((List.range i).filter (memS x s)).length+1)*8<=_;omega) ?_;intro p2 c2 V oV gV hbV hat;exact nxI (by omega) ⟨(i+1,p2,c2),⟨.cons rfl (.cons rfl (.cons (by show _=some (Value.slice p2 ((List.range (i+1)).filter (memS x s)).length c2);rw [er];rfl) (.cons rfl (.cons rfl (.cons rfl .nil))))),rfl⟩,⟨by show OwnS _ _ _ _ _ _ ((List.range (i+1)).filter (memS x s));rw [er];exact oV,(zst hb hba).trans hbV,hil⟩,zdc (by omega)⟩
  ·have h:v=false:=h;have hmt:memS x s i=false:=by rw [hm,<- hv,h]
   have er:(List.range (i+1)).filter (memS x s)=(List.range i).filter (memS x s):=by
    rw [Ku,List.filter_append,List.filter_cons,hmt];simp
   exact nxI (by omega) ⟨(i+1,p,cp),⟨.cons rfl (.cons rfl (.cons (by show _=some (Value.slice p ((List.range (i+1)).filter (memS x s)).length cp);rw [er];rfl) (.cons rfl (.cons rfl (.cons rfl .nil))))),rfl⟩,⟨by show OwnS _ _ _ _ _ _ ((List.range (i+1)).filter (memS x s));rw [er];exact ho,hb,hil⟩,zdc (by omega)⟩
 ·have hc:¬ (i:Int)<(x.ev.length:Int):=dF hc;obtain rfl:i=x.ev.length:=by omega
  refine cmo (Of_c (p:=p) (cp:=cp) ho.row (fun a ha=>?_) (by omega)) ?_
  ·have:=Jt.1 (List.mem_filter.1 ha).1;omega
  rintro e Y ⟨rfl,h⟩;subst h;exact⟨rfl,hb⟩
end
section
variable {ra rb:RelD} {w:World}
theorem zrA {ba bb i:Nat} (fa:w.heap[ba]?=some (.cells (relC ra).toArray 30 (0,0))) (fb:w.heap[bb]?=some (.cells (relC rb).toArray 30 (0,0))) (ha:WrdR ra.to) (hb:WrdR rb.to) (hi:i<48) :
  CB 56 (i64 (i:Nat)::[At0 ba,At0 bb]).toArray w (s64 (zdr (ra.to i) (rb.to i))):=by
 refine cofE 14 (i64 (i:Nat)::[At0 ba,At0 bb]) Tryz.func56 ?_;refine DrawE.ord [] [0,1,2,3,4,5,6,7,8,9] (by kernel_rfl) ?_;have hd:Bw w w.drew:=(Ja _ w).drew;exact⟨i,rfl,hi,_,zbF (hdr fa) hi,i,rfl,hi,_,zbF (hdr fb) hi,_,zdd (ha i hi) (hb i hi),rfl,hd⟩
theorem zs7 (ha:WrdR ra.to) (hb:WrdR rb.to):CB 17 #[.agg (relC ra).toArray,.agg (relC rb).toArray] w (.tuple #[.agg (relC (zff ra rb).1).toArray,i64 (zff ra rb).2]):=by
 refine cofM 10 [.agg (relC ra).toArray,.agg (relC rb).toArray] (.c .p .p) Tryz.func17 ?_;obtain⟨L,hL⟩:=nm (w.heap.size);refine⟨Unit,fun _=>⟨[(2,At0 L),(3,At0 (L+1)),(4,At0 (L+2)),(5,i64 0)],[]⟩,fun _ X=>X.heap[L]?=some (.cells (relC ra).toArray 30 (0,0))/\X.heap[L+1]?=some (.cells (relC rb).toArray 30 (0,0))/\X.heap[L+2]?=some (.cells (relC zat).toArray 30 (0,0))/\Bw w X,?_,?_⟩
 ·have s1:=wz w (.cells (relC ra).toArray 30);have s2:=wz (w.alloc (.cells (relC ra).toArray 30)) (.cells (relC rb).toArray 30);have h2:=hnew (w.alloc (.cells (relC ra).toArray 30)) (.cells (relC rb).toArray 30);have h3:=hnew ((w.alloc (.cells (relC ra).toArray 30)).alloc (.cells (relC rb).toArray 30)) (.cells (relC zat).toArray 30);rw [s1] at s2 h2;rw [s2] at h3;refine⟨(),⟨.cons (by rw [hL];rfl) (.cons (by rw [hL,<- s1];rfl) (.cons (by rw [hL,<- s2];rfl) (.cons rfl .nil))),rfl⟩,?_,?_,?_,?_⟩
  ·rw [hL];exact hold _ (hold _ (hnew w _))
  ·rw [hL];exact hold _ h2
  ·rw [hL];exact h3
  ·exact (((zba w _)).alloc (by simp) _).alloc (by simp;omega) _
 rintro _ X ⟨f0,f1,f2,hbX⟩;refine cmo (zeL (row:=fun i=>zdr (ra.to i) (rb.to i)) f0 f1 ha hb (by kernel_rfl) (fun e h1 h2 i Y hi hbY=>?_)) ?_
 ·have h48:=(zaX h1).2.1;exact zrA (zab hbY f0) (zab hbY f1) ha hb (by omega)
 rintro e Y ⟨rfl,hbY⟩;exact zao (v := .agg (relC (zff ra rb).1).toArray) k30 (zab hbY f2) rfl rfl (zaw _) ⟨relC (zff ra rb).1,zae _,zaa (zal (zab hbY f2)),rfl,zah ((zst hbX hbY)) (by omega) _⟩
end
section
variable {x:ExD} {q p:Option Addr} {c cap bb mb L:Nat} {g:Bs->RelD} {w X Y:World} {t:Trm} {kids:List Trm} {r:RelD}
theorem zox (h:WrdR r.to):WrdR (zcf r).to:=by
 by_cases ho:okR r=true
 ·exact (zfy ho h).plus.w
 ·have e:zcf r=zat:=by unfold zcf;rw [JZ ho]
  rw [e];exact zda
theorem zod (h:WrdR r.to):WrdR (zfm r).to:=by
 by_cases ho:okR r=true
 ·exact (zfy ho h).star.w
 ·have e:zfm r=zat:=by unfold zfm;rw [JZ ho]
  rw [e];exact zda
theorem zn5 (h:0<kids.length):valH x g kids=valT x g kids[0]:=by
 cases kids with
 | nil=>exact Kv h (by decide)
 | cons a l=>rw [valH];rfl
theorem zn4 (h:1<kids.length):valS x g kids=valT x g kids[1]:=by
 cases kids with
 | nil=>exact Kv h (by decide)
 | cons a l=>cases l with
  | nil=>exact Kv (show 1<1 from h) (by decide)
  | cons b l=>rw [valS,valH];rfl
theorem zoH:∀ n:Nat,n<10->n≠1->n≠9->∀ len:Nat,(len:Int)=zb7 n->0<len/\(n≠6->n≠7->n≠8->1<len/\(n=2\/n=3\/n=4\/n=5))
 | 0,_,_,_,len,h=>by have:zb7 0 = -1:=rfl;omega
 | 1,_,h,_,_,_=>Kv rfl h
 | 2,_,_,_,len,h=>by have:zb7 2=2:=rfl;omega
 | 3,_,_,_,len,h=>by have:zb7 3=2:=rfl;omega
 | 4,_,_,_,len,h=>by have:zb7 4=2:=rfl;omega
 | 5,_,_,_,len,h=>by have:zb7 5=2:=rfl;omega
 | 6,_,_,_,len,h=>by have:zb7 6=1:=rfl;omega
 | 7,_,_,_,len,h=>by have:zb7 7=1:=rfl;omega
 | 8,_,_,_,len,h=>by have:zb7 8=1:=rfl;omega
 | 9,_,_,h,_,_=>Kv rfl h
 | n+10,h,_,_,_,_=>Kv h (by omega)
structure VaB (x:ExD) (q:Option Addr) (c bb mb:Nat) (g:Bs->RelD) (w:World) (L:Nat) (t:Trm) (p:Option Addr) (cap:Nat) (X:World):Prop where
 tm:X.heap[L]?=some (.cells (zad t p cap).toArray 24 (0,0))
 z:RelH X (L+1) zat
 k:KidsT AllB X p t.kids
 wd:WldH x q c bb mb g X
 b:Bw w X
theorem VaB.below (h:VaB x q c bb mb g w L t p cap X) (hb:Bw X Y):VaB x q c bb mb g w L t p cap Y :=
 ⟨zab hb h.tm,zab hb h.z,h.k.kept hb,h.wd.below hb,zst h.b hb⟩
theorem zrL {k:UInt8} {nq:Bs} (hv:VT (.mk k nq kids)) (ih:∀ y∈kids,ValC x q c bb mb y):ValC x q c bb mb (.mk k nq kids):=by
 intro g w p cap hW hK hl;obtain⟨hk10,hkl,_,hkv⟩:=hv.inv;refine cofM 91 [At0 bb,.agg (zad (.mk k nq kids) p cap).toArray] (.c .p (.c (.s .p (.b .p)) (.c .p (.c (.s .p (.b .p)) (.c .p (.c .p (.c (.s .p (.b .p)) .p))))))) Tryz.func52 ?_;obtain⟨R,hR⟩:=nm (valT x g (.mk k nq kids));rw [<- hR];rw [valT] at hR;obtain⟨L,hL⟩:=nm (w.heap.size);have nk:∀ m:UInt8,decide ((k.toNat:Int)=(m.toNat:Int))=decide (k=m):=fun m=>zbq k m;refine⟨Unit,fun _=>⟨[(0,At0 bb),(3,At0 L),(4,At0 (L+1))],[]⟩,fun _ X=>VaB x q c bb mb g w L (.mk k nq kids) p cap X,?_,?_⟩
 ·obtain⟨W1,e1⟩:=nm (w.alloc (.cells (zad (.mk k nq kids) p cap).toArray 24));have n1:W1.heap.size=L+1:=by rw [e1,hL];exact wz _ _
  have f1:W1.heap[L]?=some (.cells (zad (.mk k nq kids) p cap).toArray 24 (0,0)):=by rw [e1,hL];exact hnew w _
  have b1:Bw w W1:=by rw [e1];exact zba _ _
  obtain⟨W2,e2⟩:=nm (W1.alloc (.cells (relC zat).toArray 30));have f2:RelH W2 (L+1) zat:=by rw [e2,<- n1];exact hnew W1 _
  have b2:Bw W1 W2:=by rw [e2];exact zba _ _
  have b12:=zst b1 b2;have key:VaB x q c bb mb g w L (.mk k nq kids) p cap W2:=⟨zab b2 f1,f2,hK.kept b12,hW.below b12,b12⟩;rw [e2,e1] at key;refine⟨(),⟨.cons rfl (.cons (by rw [hL];rfl) (.cons ?_ .nil)),rfl⟩,key⟩;show some (At0 (w.alloc (.cells (zad (.mk k nq kids) p cap).toArray 24)).heap.size)=_;rw [wz,hL]
 clear hW hK;have ret:∀ {V:World},VaB x q c bb mb g w L (.mk k nq kids) p cap V->WrdR R.to->SatR ((storeVar 30 ⟨L+1,0,none⟩ (.agg (relC R).toArray)).run Tryz.prog V) fun _ w'=>∃ cells,cells.length=49/\zav w' ⟨L+1,0,none⟩ cells/\Ending.returned (.agg cells.toArray) = .returned (.agg (relC R).toArray)/\Bw w w'/\WrdR R.to:=fun {V} hV hw =>
  zaS hV.z (by omega) hV.b fun Z fZ bZ=>⟨relC R,zae _,zaa fZ,rfl,bZ,hw⟩
 rintro _ X hX;refine⟨Unit,fun _=>⟨[(0,At0 bb),(3,At0 L),(4,At0 (L+1))],[]⟩,fun _ Y=>X=Y/\k≠1/\k≠9,?_,?_⟩
 ·refine⟨_,zac (zaa hX.tm) (i:=0) rfl,biE (fun h1=>?_) fun h1=>?_⟩
  ·have h1:k=1:=dT ((nk 1).symm.trans h1);rw [Kc h1] at hR;rw [hR];refine DrawE.ord [7] [0,1,2,3,4,5,6,7] (by kernel_rfl) ⟨_,zac (zaa (hdr hX.wd.f)) (i:=334) (zft x q c mb),_,zac (zaa (hdr hX.tm)) (i:=1) rfl,_,fun w2 hb=>zsi hX.wd nq ((Ja _ X).drew.trans hb),?_⟩;have hw:=hX.wd.w nq;rw [<- hR] at hw ⊢;exact ret (hX.below (Ja _ X).drew) hw
  have h1:k≠1:=dF ((nk 1).symm.trans h1);rw [JZ h1] at hR;refine biE (fun h9=>?_) fun h9=>?_
  ·have h9:k=9:=dT ((nk 9).symm.trans h9);rw [Kc h9] at hR;have hn:=hX.wd.v.n;have bd:=(Ja X.heap.size X).drew;have hXd:=hX.below bd;have hm:setM x nq<2^64:=by rw [zp7];exact zpw fun a ha=>by have:=Jt.1 (List.mem_filter.1 ha).1;omega
   refine DrawE.ord [9] [0,1,2,3,4,5,6,7,8,9] (by kernel_rfl) ⟨_,zac (zaa hXd.wd.f) (i:=333) (zrK x q c mb),_,zac (zaa hXd.tm) (i:=1) rfl,cmo (zrV hXd.wd nq) ?_⟩;rintro e V1 ⟨rfl,v1⟩;refine⟨v1,cmo (Id_c (n:=x.ev.length) (s:=setM x nq) (by omega) hm) ?_⟩;rintro e V2 ⟨rfl,v2⟩;refine⟨v2,?_⟩;have hw:=(RelOk.idr (n:=x.ev.length) (by omega) (setM x nq)).w;rw [<- hR] at hw ⊢;exact ret ((hXd.below v1).below v2) hw
  ·have h9:k≠9:=dF ((nk 9).symm.trans h9);exact⟨(),(cvE rfl rfl),rfl,h1,h9⟩
 rintro _ _ ⟨rfl,h1,h9⟩;rw [JZ h1,JZ h9] at hR;have nat:∀ m:UInt8,k≠m->k.toNat≠m.toNat:=fun m h e=>h (Kh.1 e);obtain⟨hlen,hbin⟩:=zoH k.toNat hk10 (nat 1 h1) (nat 9 h9) kids.length hkl;obtain⟨a,hae⟩:=nm (valT x g kids[0]);rw [zn5 hlen,<- hae] at hR;refine⟨Nat,fun b5=>⟨[(0,At0 bb),(3,At0 L),(4,At0 (L+1)),(5,At0 b5)],[]⟩,fun b5 Y=>VaB x q c bb mb g w L (.mk k nq kids) p cap Y/\RelH Y b5 a/\WrdR a.to,?_,?_⟩
 ·obtain⟨b,o,q2,c2,hp,hc,hbl,hnl,hkk⟩:=KidsT.kid (l:=kids) hX.k hlen;refine⟨_,zac (zaa hX.tm) (i:=2) (v := .slice p kids.length cap) rfl,?_⟩;subst hp;refine⟨0,rfl,hlen,_,rfl,hc,hbl,cmo (ih kids[0] (gM hlen) hX.wd hkk hnl) ?_⟩;rintro e Y ⟨rfl,bY,hw⟩;rw [<- hae] at hw ⊢;exact zak (X:=Y) (v := .agg (relC a).toArray) k30 (zae _) (by kernel_rfl) (zaw _) fun Z hbZ fZ sZ=>⟨Y.heap.size,(cvE rfl rfl),(hX.below bY).below hbZ,fZ,hw⟩
 clear hX X;rintro b5 X ⟨hX,fa,ha⟩;refine⟨Unit,fun _=>⟨[(0,At0 bb),(3,At0 L),(4,At0 (L+1)),(5,At0 b5)],[]⟩,fun _ Y=>X=Y/\k≠6/\k≠7/\k≠8,?_,?_⟩
 ·refine⟨_,zac (zaa hX.tm) (i:=0) rfl,biE (fun h=>?_) fun h6=>?_⟩
  ·have h:k=6:=dT ((nk 6).symm.trans h);have e:R=zbB a:=by rw [hR,Kc (by rw [h];decide),h];rfl
   refine⟨relC a,zae _,zaa fa,hlt fa,cmo (zhl ha hX.wd.t) ?_⟩;rintro e9 Y ⟨rfl,bY,hw⟩;rw [<- e] at hw ⊢;exact ret (hX.below bY) hw
  have h6:k≠6:=dF ((nk 6).symm.trans h6);refine biE (fun h=>?_) fun h7=>?_
  ·have h:k=7:=dT ((nk 7).symm.trans h);have e:R=zcf a:=by rw [hR,Kc (by rw [h];decide),h];rfl
   refine⟨relC a,zae _,zaa fa,hlt fa,cmo (znS ha hX.wd.t) ?_⟩;rintro e9 Y ⟨rfl,bY⟩;have hw:=zox ha;rw [<- e] at hw ⊢;exact ret (hX.below bY) hw
  have h7:k≠7:=dF ((nk 7).symm.trans h7);refine biE (fun h=>?_) fun h8=>?_
  ·have h:k=8:=dT ((nk 8).symm.trans h);have e:R=zfm a:=by rw [hR,Kc (by rw [h];decide),h];rfl
   refine⟨relC a,zae _,zaa fa,hlt fa,cmo (zs3 ha hX.wd.t) ?_⟩;rintro e9 Y ⟨rfl,bY⟩;have hw:=zod ha;rw [<- e] at hw ⊢;exact ret (hX.below bY) hw
  have h8:k≠8:=dF ((nk 8).symm.trans h8);exact⟨(),(cvE rfl rfl),rfl,h6,h7,h8⟩
 rintro _ _ ⟨rfl,h6,h7,h8⟩;rw [JZ (by rintro (h | h | h);exact h6 h;exact h7 h;exact h8 h)] at hR;obtain⟨hlen2,hk4⟩:=hbin (nat 6 h6) (nat 7 h7) (nat 8 h8);obtain⟨b',hbe⟩:∃ b',b'=valT x g kids[1]:=⟨_,rfl⟩;rw [zn4 hlen2,<- hbe] at hR;refine⟨Nat,fun b6=>⟨[(0,At0 bb),(3,At0 L),(4,At0 (L+1)),(5,At0 b5),(6,At0 b6)],[]⟩,fun b6 Y=>VaB x q c bb mb g w L (.mk k nq kids) p cap Y/\RelH Y b5 a/\RelH Y b6 b'/\WrdR b'.to,?_,?_⟩
 ·obtain⟨b,o,q2,c2,hp,hc,hbl,hnl,hkk⟩:=KidsT.kid (l:=kids) hX.k hlen2;refine⟨_,zac (zaa hX.tm) (i:=2) (v := .slice p kids.length cap) rfl,?_⟩;subst hp;refine⟨1,rfl,hlen2,_,rfl,hc,hbl,cmo (ih kids[1] (gM hlen2) hX.wd hkk hnl) ?_⟩;rintro e Y ⟨rfl,bY,hw⟩;rw [<- hbe] at hw ⊢;exact zak (X:=Y) (v := .agg (relC b').toArray) k30 (zae _) (by kernel_rfl) (zaw _) fun Z hbZ fZ sZ=>⟨Y.heap.size,(cvE rfl rfl),(hX.below bY).below hbZ,zab hbZ (zab bY fa),fZ,hw⟩
 clear hX fa X;rintro b6 X ⟨hX,fa,fb,hb⟩;refine⟨Nat,fun b7=>⟨[(3,At0 L),(4,At0 (L+1)),(5,At0 b5),(6,At0 b6),(7,At0 b7)],[]⟩,fun b7 Y=>VaB x q c bb mb g w L (.mk k nq kids) p cap Y/\RelH Y b5 a/\RelH Y b6 b'/\RelH Y b7 zat/\X.heap.size<=b7,?_,?_⟩
 ·have bz:=zba X (.cells (relC zat).toArray 30);exact⟨X.heap.size,(cvE rfl rfl),hX.below bz,zab bz fa,zab bz fb,hnew X _,Jb _⟩
 have hXs:=hX.b.size;have hXz:=hlt hX.z;clear hX fa fb;obtain⟨S0,hS0⟩:=nm (X.heap.size);rw [<- hS0] at hXs hXz ⊢;clear hS0 X;rintro b7 X ⟨hX,fa,fb,fz,h7s⟩;refine⟨Unit,fun _=>⟨[(4,At0 (L+1)),(7,At0 b7)],[]⟩,fun _ Y=>RelH Y (L+1) zat/\Bw w Y/\RelH Y b7 R/\WrdR R.to,?_,?_⟩
 ·refine⟨_,zac (zaa hX.tm) (i:=0) rfl,?_⟩;have fin:∀ {V:World},Bw X V->WrdR R.to->SatR ((storeVar 30 ⟨b7,0,none⟩ (.agg (relC R).toArray)).run Tryz.prog V) fun _ w'=>RelH w' (L+1) zat/\Bw w w'/\RelH w' b7 R/\WrdR R.to:=fun {V} hV hw =>
   zao (v := .agg (relC R).toArray) k30 (zab hV fz) (zae _) (zae _) (zaw _) ⟨(zam (by omega)).trans (zab hV hX.z),zah (zst hX.b hV) (by omega) _,zal (zab hV fz),hw⟩
  refine biE (fun h=>?_) fun h2b=>?_
  ·have h:k=2:=dT ((nk 2).symm.trans h);have e:R=(zbd a b').1:=by rw [hR,h];rfl
   refine⟨relC a,zae _,zaa fa,hlt fa,relC b',zae _,zaa fb,hlt fb,cmo (zfc ha hb) ?_⟩;rintro e9 Y ⟨rfl,bY⟩;have hw:WrdR (zbd a b').1.to:=zlN ha hb;rw [<- e] at hw ⊢;obtain⟨u,w',g1,g2⟩:=fin bY hw;exact⟨u,w',g1,(),(cvE rfl rfl),g2⟩
  have h2b:k≠2:=dF ((nk 2).symm.trans h2b);refine biE (fun h=>?_) fun h3b=>?_
  ·have h:k=3:=dT ((nk 3).symm.trans h);have e:R=(zi7 a b').1:=by rw [hR,h];rfl
   refine⟨relC a,zae _,zaa fa,hlt fa,relC b',zae _,zaa fb,hlt fb,cmo (zth ha hb) ?_⟩;rintro e9 Y ⟨rfl,bY⟩;have hw:WrdR (zi7 a b').1.to:=zpe ha;rw [<- e] at hw ⊢;obtain⟨u,w',g1,g2⟩:=fin bY hw;exact⟨u,w',g1,(),(cvE rfl rfl),g2⟩
  have h3b:k≠3:=dF ((nk 3).symm.trans h3b);refine biE (fun h=>?_) fun h4b=>?_
  ·have h:k=4:=dT ((nk 4).symm.trans h);have e:R=(zff a b').1:=by rw [hR,h];rfl
   refine⟨relC a,zae _,zaa fa,hlt fa,relC b',zae _,zaa fb,hlt fb,cmo (zs7 ha hb) ?_⟩;rintro e9 Y ⟨rfl,bY⟩;have hw:WrdR (zff a b').1.to:=zmQ ha;rw [<- e] at hw ⊢;obtain⟨u,w',g1,g2⟩:=fin bY hw;exact⟨u,w',g1,(),(cvE rfl rfl),g2⟩
  have h4b:k≠4:=dF ((nk 4).symm.trans h4b);refine biE (fun h=>?_) fun h5b=>?_
  ·have h:k=5:=dT ((nk 5).symm.trans h);have e:R=(zfl a b').1:=by rw [hR,h];rfl
   refine⟨relC a,zae _,zaa fa,hlt fa,relC b',zae _,zaa fb,hlt fb,cmo (zkR ha hb hX.wd.t) ?_⟩;rintro e9 Y ⟨rfl,bY⟩;have hw:WrdR (zfl a b').1.to:=zj4 ha hb;rw [<- e] at hw ⊢;obtain⟨u,w',g1,g2⟩:=fin bY hw;exact⟨u,w',g1,(),(cvE rfl rfl),g2⟩
  have h5b:k≠5:=dF ((nk 5).symm.trans h5b)
  exfalso
  have n2:=nat 2 h2b;have n3:=nat 3 h3b;have n4:=nat 4 h4b;have n5:=nat 5 h5b;rcases hk4 with h | h | h | h
  ·exact n2 h
  ·exact n3 h
  ·exact n4 h
  ·exact n5 h
 rintro _ Y ⟨fz,bY,fR,hw⟩;exact⟨relC R,zae _,zaa fR,hlt fR,zaS fz (by omega) bY fun Z fZ bZ=>⟨relC R,zae _,zaa fZ,rfl,bZ,hw⟩⟩
theorem zpW:∀ t,VT t->ValC x q c bb mb t
 | .mk k nq kids,hv=>zrL hv fun y hy=>zpW y (hv.inv.2.2.2 y hy)
end
def evR (t:Trm) (ls:List LineD) (x:ExD):RelD×Int:=match zdx t ls x with
 | none=>(zat,2)
 | some r=>(r,0)
theorem zm7 {ls:List LineD} {s:Bs} {lets:Bs->Bool} (h:zbW ls=some (s,lets)):∀ s,lets s=true->s.length<=16:=by
 unfold zbW at h
 split at h
 ·cases h
 ·split at h
  ·cases h
  ·rename_i lets' e;dsimp only at h
   split at h
   ·cases h
   ·simp only [Jf,Ki] at h;rw [<- h.2];exact (zdq ls _ _ 0 lets' (fun s hs=>by cases hs) (by decide) e).2.2
structure EvB (w:World) (ls:List LineD) (p:Option Addr) (cap:Nat) (t:Trm) (tq:Option Addr) (tc:Nat) (x:ExD) (q:Option Addr) (c L:Nat) (X:World):Prop where
 t:X.heap[L]?=some (.cells (zad t tq tc).toArray 24 (0,0))
 m:X.heap[L+1]?=some (.cells #[.slice p ls.length cap] 47 (0,0))
 e:ExH X (L+2) x q c
 z:RelH X (L+3) zat
 b:Bw w X
 s:L+4<=X.heap.size
section
variable {x:ExD} {q p tq:Option Addr} {c cap tc L:Nat} {w X Y:World} {ls:List LineD} {t:Trm}
theorem EvB.upto (h:EvB w ls p cap t tq tc x q c L X) (hL:w.heap.size<=L+4) (hb:Below (L+4) X Y):EvB w ls p cap t tq tc x q c L Y :=
 ⟨(hb.block _ (by omega)).trans h.t,(hb.block _ (by omega)).trans h.m,(hb.block _ (by omega)).trans h.e,(hb.block _ (by omega)).trans h.z,h.b.trans (hb.mono hL),Jj h.s hb.size⟩
theorem EvB.below (h:EvB w ls p cap t tq tc x q c L X) (hL:w.heap.size<=L+4) (hb:Bw X Y):EvB w ls p cap t tq tc x q c L Y:=h.upto hL (hb.mono h.s)
theorem znW (hg:GlobK w) (hM:LinsM AllB w p ls) (hlen:ls.length<=140737488351232) (hK:KidsT AllB w tq t.kids) (htn:t.name.length<=140737488351232) (hv:ExV w x q) (hT:Tz64M w) :
  CB 12 #[.agg (zad t tq tc).toArray,.agg #[.slice p ls.length cap],.agg (exC x q c).toArray] w (.tuple #[.agg (relC (evR t ls x).1).toArray,i64 (evR t ls x).2]):=by
 refine cofM 71 [.agg (zad t tq tc).toArray,.agg #[.slice p ls.length cap],.agg (exC x q c).toArray] (.c .p (.c .p (.c .p (.c (.s .p .p) (.c .p (.c .p (.c (.s .p .p) (.c .p (.s (.s .p (.b (.l (.s .p (.s .p (.s (.b (.c .p (.s .p .p))) .p)))))) .p))))))))) Tryz.func12 ?_;obtain⟨L,hL⟩:=nm (w.heap.size);have hL4:w.heap.size<=L+4:=by omega
 refine⟨Unit,fun _=>⟨[(3,At0 L),(4,At0 (L+1)),(5,At0 (L+2)),(6,At0 (L+3))],[]⟩,fun _ X=>EvB w ls p cap t tq tc x q c L X,?_,?_⟩
 ·obtain⟨W1,e1⟩:=nm (w.alloc (.cells (zad t tq tc).toArray 24));have n1:W1.heap.size=L+1:=by rw [e1,hL];exact wz _ _
  have f1:W1.heap[L]?=some (.cells (zad t tq tc).toArray 24 (0,0)):=by rw [e1,hL];exact hnew w _
  have b1:Bw w W1:=by rw [e1];exact zba _ _
  obtain⟨W2,e2⟩:=nm (W1.alloc (.cells #[.slice p ls.length cap] 47));have n2:W2.heap.size=L+2:=by rw [e2,wz,n1]
  have f2:W2.heap[L+1]?=some (.cells #[.slice p ls.length cap] 47 (0,0)):=by rw [e2,<- n1];exact hnew W1 _
  have b2:Bw W1 W2:=by rw [e2];exact zba _ _
  obtain⟨W3,e3⟩:=nm (W2.alloc (.cells (exC x q c).toArray 37));have n3:W3.heap.size=L+3:=by rw [e3,wz,n2]
  have f3:ExH W3 (L+2) x q c:=by rw [e3,<- n2];exact hnew W2 _
  have b3:Bw W2 W3:=by rw [e3];exact zba _ _
  obtain⟨W4,e4⟩:=nm (W3.alloc (.cells (relC zat).toArray 30));have n4:W4.heap.size=L+4:=by rw [e4,wz,n3]
  have f4:RelH W4 (L+3) zat:=by rw [e4,<- n3];exact hnew W3 _
  have b4:Bw W3 W4:=by rw [e4];exact zba _ _
  have key:EvB w ls p cap t tq tc x q c L W4:=⟨zab b4 (zab b3 (zab b2 f1)),zab b4 (zab b3 f2),zab b4 f3,f4,zst b1 (zst b2 (zst b3 b4)),by omega⟩;rw [e4,e3,e2,e1] at key;rw [e1] at n1;rw [e2,e1] at n2;rw [e3,e2,e1] at n3;exact⟨(),⟨.cons (by rw [hL];rfl) (.cons (congrArg (fun n=>some (At0 n)) n1) (.cons (congrArg (fun n=>some (At0 n)) n2) (.cons (congrArg (fun n=>some (At0 n)) n3) .nil))),rfl⟩,key⟩
 have kd:KidsT (fun b=>b<w.heap.size) w tq t.kids:=hK.there.weak fun b hb=>hb.2;have kids:∀ {Z:World},Bw w Z->KidsT (fun b=>b<w.heap.size) Z tq t.kids:=fun {Z} hZ=>kd.by fun b cs ty fr hb hc=>hZ.block b hb
 obtain⟨R,hR⟩:=nm (evR t ls x);rw [<- hR];have ret:∀ {V:World} {r:RelD} {n:Int},EvB w ls p cap t tq tc x q c L V->R=(r,n)->SatR ((storeVar 30 ⟨L+3,0,none⟩ (.agg (relC r).toArray)).run Tryz.prog V) fun _ w'=>∃ cells,cells.length=49/\zav w' ⟨L+3,0,none⟩ cells/\Ending.returned (.tuple #[.agg cells.toArray,i64 n]) = .returned (.tuple #[.agg (relC R.1).toArray,i64 R.2])/\Bw w w':=fun {V r n} hV e =>
  zaS hV.z (by omega) hV.b fun Z fZ bZ=>⟨relC r,zae _,zaa fZ,by rw [e],bZ⟩
 rintro _ X hX;refine⟨Option (Nat×(Bs->Bool)),fun y=>⟨[(3,At0 L),(4,At0 (L+1)),(5,At0 (L+2)),(6,At0 (L+3)),(9,.map (y.map (·.1))),(10,.bool y.isSome)],[]⟩,fun y X=>EvB w ls p cap t tq tc x q c L X/\(y=none->zbW ls=none)/\∀ z,y=some z->(∃ s,zbW ls=some (s,z.2))/\MapF keyS X z.1 (mapB z.2)/\L+4<=z.1,?_,?_⟩
 ·refine⟨_,rfl,zaa hX.m,hlt hX.m,cmo (zqP (cap:=cap) (hg.below hX.b) (hM.below hX.b) hlen) ?_⟩;rintro e Y ⟨bY,hno,hyes⟩;have hs:=hX.s
  cases he:zbW ls with
  | none =>
   obtain rfl:=hno he;exact⟨none,(cvE rfl rfl),hX.below hL4 bY,fun _=>rfl,fun z hz=>(by cases hz)⟩
  | some y =>
   obtain⟨l,rfl,hm,hl⟩:=hyes y he;exact⟨some (l,y.2),(cvE rfl rfl),hX.below hL4 bY,fun h=>(by cases h),fun z hz=>(by cases hz;exact⟨⟨y.1,rfl⟩,hm,by omega⟩)⟩
 clear hX X;rintro y X ⟨hX,hno,hyes⟩
 cases y with
 | none =>
  have hR0:R=(zat,2):=by rw [hR];unfold evR zdx;rw [hno rfl]
  refine⟨Unit,fun _=>⟨[(3,At0 L),(4,At0 (L+1)),(5,At0 (L+2)),(6,At0 (L+3)),(10,.bool false)],[]⟩,fun _ X=>EvB w ls p cap t tq tc x q c L X,?_,?_⟩
  ·exact⟨[.map none,i64 0],rfl,(),(cvE rfl rfl),hX.below hL4 (zba _ _)⟩
  clear hX hno hyes X;rintro _ X hX;refine⟨Unit,fun _=>⟨[],[]⟩,fun _ _=>False,brT (brT (brT ⟨relC zat,by kernel_rfl,?_⟩)),fun _ _ h=>h.elim⟩;exact ret hX hR0
 | some z =>
  obtain⟨lm,lets⟩:=z;obtain⟨⟨s,hex⟩,hm,hlm⟩:=hyes (lm,lets) rfl;clear hno hyes;dsimp only at hex hm hlm;have hle:=zm7 hex;have hsome:(zbW ls).isSome=true:=by rw [hex];rfl
  have hkinds:=zhb hsome;have fail:(¬ ((chkT lets 0 t).1&&za0 x)=true)->R=(zat,2):=fun h=>by
   rw [hR];unfold evR zdx;rw [hex];dsimp only;rw [JZ h]
  refine⟨Nat,fun kb=>⟨[(3,At0 L),(4,At0 (L+1)),(5,At0 (L+2)),(6,At0 (L+3)),(10,.bool true),(11,At0 kb)],[]⟩,fun kb X=>EvB w ls p cap t tq tc x q c L X/\ChkB kb lm lets 0 X/\L+4<=kb,?_,?_⟩
  ·refine⟨[.map (some lm),i64 0],rfl,?_⟩;have f5:=hnew X (.cells #[.map (some lm),i64 0] 110);have b5:=zba X (.cells #[.map (some lm),i64 0] 110);have hml:=zbT hm;have hs:=hX.s;have hgl:=hg.lt;exact⟨X.heap.size,(cvE rfl rfl),hX.below hL4 b5,⟨f5,hm.below b5,by omega,by omega,by omega,(hg.below hX.b).below b5⟩,hs⟩
  clear hX hm X;rintro kb X ⟨hX,hC,hkb⟩;rcases hce:chkT lets 0 t with ⟨b2,m⟩;refine⟨Unit,fun _=>⟨[(3,At0 L),(4,At0 (L+1)),(5,At0 (L+2)),(6,At0 (L+3))],[]⟩,fun _ X=>EvB w ls p cap t tq tc x q c L X/\b2=true/\za0 x=true,?_,?_⟩
  ·refine brF ⟨_,rfl,zaa hX.t,hlt hX.t,?_⟩;have hck:=zrh (kb:=kb) (l:=lm) (lets:=lets) (Q:=fun b=>b<w.heap.size) (fun b hb=>by omega) t 0 tq tc X (by decide) hC htn (kids hX.b);rw [hce] at hck;refine cmo hck ?_;rintro e Y ⟨rfl,hY,gY⟩;have hXY:EvB w ls p cap t tq tc x q c L Y:=hX.upto hL4 ⟨gY.os,gY.tape,gY.output,gY.size,fun j hj=>gY.block j (by have:=hX.s;omega) (by simp;omega)⟩;refine biE (fun h=>?_) fun h=>?_
   ·have h:(!b2)=true:=h;refine brT ⟨relC zat,by kernel_rfl,?_⟩;exact ret hXY (fail (by rw [hce,notB h];show ¬ (false&&za0 x)=true;rw [JJ];decide))
   have h:(!b2)=false:=h;have hb2:b2=true:=notF h;refine⟨exC x q c,zay _ _ _,zaa hXY.e,hlt hXY.e,cmo (zd5 (hv.below hXY.b) (hT.below hXY.b)) ?_⟩;rintro e Z ⟨rfl,bZ⟩;have hZ:=hXY.below hL4 bZ;refine biE (fun h2=>?_) fun h2=>?_
   ·have h2:(!za0 x)=true:=h2;refine⟨relC zat,by kernel_rfl,?_⟩;exact ret hZ (fail (by rw [notB h2,JY];decide))
   ·have h2:(!za0 x)=false:=h2;exact⟨(),(cvE rfl rfl),hZ,hb2,notF h2⟩
  clear hX hC X;rintro _ X ⟨hX,hb2,hright⟩;subst hb2;obtain⟨hvt,hnm⟩:=zeN lets hle t 0 m hce;have hm400:m<=400:=by
   have:=(zfL lets 0 t).2 (by rw [hce]);rw [hce] at this;exact this
  have hok:zdx t ls x=if (prT ⟨[],0,0⟩ t).most > 50 then none else some (valT x (zlk x (zdl x) ls) t):=by
   unfold zdx;rw [hex];dsimp only;rw [hce,hright];rfl
  refine⟨Nat,fun wb=>⟨[(3,At0 L),(4,At0 (L+1)),(5,At0 (L+2)),(6,At0 (L+3)),(12,At0 wb)],[]⟩,fun wb X=>EvB w ls p cap t tq tc x q c L X/\PrB wb ⟨[],0,0⟩ X/\L+4<=wb,?_,?_⟩
  ·have f5:=hnew X (.cells #[.slice none 0 0,i64 0,i64 0] 113);have b5:=zba X (.cells #[.slice none 0 0,i64 0,i64 0] 113);have hs:=hX.s;have hgl:=hg.lt;exact⟨X.heap.size,(cvE rfl rfl),hX.below hL4 b5,⟨⟨none,0,f5,OwnS.nil⟩,by omega,(hg.below hX.b).below b5⟩,hs⟩
  clear hX X;rintro wb X ⟨hX,hP,hwb⟩;refine⟨Unit,fun _=>⟨[(3,At0 L),(4,At0 (L+1)),(5,At0 (L+2)),(6,At0 (L+3)),(12,At0 wb)],[]⟩,fun _ X=>EvB w ls p cap t tq tc x q c L X/\PrB wb (prT ⟨[],0,0⟩ t) X,?_,?_⟩
  ·refine⟨_,rfl,zaa hX.t,hlt hX.t,cmo (zov (wb:=wb) t hvt ⟨[],0,0⟩ tq tc X hP ((kids hX.b).weak fun b hb=>by omega) (by show 0+40*nodesT t<=_;omega) (by show 0+nodesT t<=_;omega) (by show 0<=_;omega)) ?_⟩;rintro e Y ⟨rfl,hY,sY⟩;exact⟨(),(cvE rfl rfl),hX.upto hL4 ⟨sY.os,sY.tape,sY.output,sY.size,fun j hj=>sY.low j (by omega)⟩,hY⟩
  clear hX hP X;rintro _ X ⟨hX,hP⟩;refine⟨Unit,fun _=>⟨[(3,At0 L),(4,At0 (L+1)),(5,At0 (L+2)),(6,At0 (L+3))],[]⟩,fun _ X=>EvB w ls p cap t tq tc x q c L X/\¬ (prT ⟨[],0,0⟩ t).most > 50,?_,?_⟩
  ·obtain⟨pq,pc,fp,_⟩:=hP.f;refine⟨_,zac (zaa fp) (i:=2) rfl,biE (fun h=>?_) fun h=>?_⟩
   ·have h:(50:Int)<((prT ⟨[],0,0⟩ t).most:Int):=dT h;refine⟨relC zat,by kernel_rfl,?_⟩;exact ret hX (by rw [hR];unfold evR;rw [hok,Kc (by omega)])
   ·have h:¬ (50:Int)<((prT ⟨[],0,0⟩ t).most:Int):=dF h;exact⟨(),(cvE rfl rfl),hX,by omega⟩
  clear hX hP X;rintro _ X ⟨hX,hmost⟩;rw [JZ hmost] at hok;have hRR:R=(valT x (zlk x (zdl x) ls) t,0):=by rw [hR];unfold evR;rw [hok]
  clear hok hR;refine⟨Nat×Nat,fun y=>⟨[(3,At0 L),(4,At0 (L+1)),(5,At0 (L+2)),(6,At0 (L+3)),(13,At0 y.1)],[]⟩,fun y X=>EvB w ls p cap t tq tc x q c L X/\w.heap.size<=y.2/\L+4<=y.2/\WldH x q c y.1 y.2 (zdl x) X,?_,?_⟩
  ·refine⟨exC x q c,zay _ _ _,zaa hX.e,hlt hX.e,cmo (zg0 (hv.below hX.b) (hT.below hX.b)) ?_⟩;rintro e Y ⟨bb,mb,rfl,h1,h2,f1,m1,b1⟩;have hY:=hX.below hL4 b1;have hs:=hX.s;exact⟨(bb,mb),(cvE rfl rfl),hY,by have:=hX.b.size;omega,by omega,f1,⟨_,m1,zkr⟩,ziu hv hT,hv.below hY.b,hT.below hY.b⟩
  clear hX X;rintro⟨bb,mb⟩ X ⟨hX,hmb,hmb4,hW⟩;dsimp only at hmb hmb4 hW ⊢;obtain⟨G,hG⟩:=nm (zlk x (zdl x) ls);rw [<- hG] at hRR;refine⟨_,zac (zaa hX.m) (i:=0) rfl,Nat×(Bs->RelD),fun y=>⟨[(3,At0 L),(6,At0 (L+3)),(13,At0 bb),(48,.slice p ls.length cap),(49,i64 (ls.length:Nat)),(50,.int .i64 (y.1:Nat))],[]⟩,fun y X=>EvB w ls p cap t tq tc x q c L X/\WldH x q c bb mb y.2 X/\y.1<=ls.length/\G=zlk x y.2 (ls.drop y.1),fun y=>ls.length-y.1,(0,zdl x),(cvE rfl rfl),⟨hX,hW,Jh _,hG⟩,?_⟩;clear hX hW hG X;rintro⟨i,g⟩ X ⟨hX,hW,hi,hG⟩;dsimp only at hW hi hG ⊢;refine biE (fun hc=>?_) fun hc=>?_
  ·have hc:(i:Int)<(ls.length:Int):=dT hc;have hil:i<ls.length:=by omega
   rw [JH hil] at hG;obtain⟨u,hu⟩:=nm (ls[i]);have hum:u∈ls:=by rw [hu];exact gM hil
   rw [<- hu] at hG;have hG:G=zlk x (if u.kind=0 then letR g u.name (valT x g u.term) else g) (ls.drop (i+1)):=hG;obtain⟨k3,kn,kv⟩:=hkinds u hum;obtain⟨b1,o1,q1,c1,rfl,e1,s1,_,_,m1,kk⟩:=(hM.below hX.b).line hil;rw [<- hu] at e1 m1 kk;refine⟨Nat,fun b9=>⟨[(3,At0 L),(6,At0 (L+3)),(13,At0 bb),(15,At0 b9),(48,.slice (some ⟨b1,o1,none⟩) ls.length cap),(49,i64 (ls.length:Nat)),(50,.int .i64 (i:Nat))],[]⟩,fun b9 Y=>EvB w ls (some ⟨b1,o1,none⟩) cap t tq tc x q c L Y/\WldH x q c bb mb g Y/\Y.heap[b9]?=some (.cells (zas u.kind u.name u.term q1 c1).toArray 49 (0,0))/\KidsT AllB Y q1 u.term.kids,?_,?_⟩
   ·exact⟨i,rfl,hil,_,rfl,e1,s1,zak (X:=X) (v := .agg (zas u.kind u.name u.term q1 c1).toArray) k49 rfl rfl rfl fun Y hbY fY sY=>⟨X.heap.size,(cvE rfl rfl),hX.below hL4 hbY,hW.below hbY,fY,kk.kept hbY⟩⟩
   clear hX hW e1 s1 kk X;rintro b9 X ⟨hX,hW,fx,kk⟩;refine⟨_,zac (zaa fx) (i:=0) rfl,biE (fun h0=>?_) fun h0=>?_⟩
   ·have h0:((u.kind:Nat):Int)=0:=dT h0;rw [Kc (by omega)] at hG;have bd:=(Ja X.heap.size X).drew;have t1:zav X ⟨b9,0+2,none⟩ (zad u.term q1 c1):=za9 (o:=2) (n:=3) fx;refine DrawE.ord [10] [0,1,2,3,4,5,6,7,8,9,10] (by kernel_rfl) ⟨_,zac (zaa (hdr hW.f)) (i:=334) (zft x q c mb),_,zac (zaa (hdr fx)) (i:=1) rfl,_,rfl,t1,hlt fx,cmo (zpW u.term kv (hW.below bd) (kk.kept bd) m1) ?_⟩;rintro e Y ⟨rfl,bY,hw⟩;refine⟨bY,?_⟩;have bYY:=zst bd bY;have hY:=hX.below hL4 bYY;exact WldH.put ((hW.below bd).below bY) hv hT hY.b hmb u.name hw fun V hV bV keep=>nxI (by omega) ⟨(i+1,letR g u.name (valT x g u.term)),(cvE rfl rfl),⟨⟨keep _ _ _ _ hY.t,keep _ _ _ _ hY.m,keep _ _ _ _ hY.e,keep _ _ _ _ hY.z,bV,by have:=hlt (keep _ _ _ _ hY.z);omega⟩,hV,hil,hG⟩,zdc (by omega)⟩
   ·have h0:¬ ((u.kind:Nat):Int)=0:=dF h0;rw [JZ (by omega)] at hG;exact nxI (by omega) ⟨(i+1,g),(cvE rfl rfl),⟨hX,hW,hil,hG⟩,zdc (by omega)⟩
  ·have hc:¬ (i:Int)<(ls.length:Int):=dF hc;rw [JI (by omega)] at hG;have hG:G=g:=hG;subst hG;refine⟨_,rfl,zaa hX.t,hlt hX.t,cmo (zpW t hvt hW ((kids hX.b).weak fun b hb=>trivial) htn) ?_⟩;rintro e Y ⟨rfl,bY,hw⟩;exact ret (hX.below hL4 bY) hRR
end
mutual
def nodesA:Trm->Nat
 | .mk _ _ kids=>nodesAL 1 kids
def nodesAL:Nat->List Trm->Nat
 | n,[]=>n
 | n,k::r=>if n > 500 then n else nodesAL (n+nodesA k) r
end
mutual
def depthT:Trm->Nat
 | .mk _ _ kids=>1+depthL kids
def depthL:List Trm->Nat
 | []=>0
 | k::r=>max (depthT k) (depthL r)
end
def zcI:Nat->Trm->Bool
 | 0,_=>false
 | m+1,.mk k s kids=>decide (kids.length<=3)&&(kids.all (zcI m)&&decide (nodesA (.mk k s kids)<=500))
theorem zi4:∀ {l:List Trm} {t:Trm},t∈l->depthT t<=depthL l
 | a::r,t,h=>by
  rw [depthL];rcases JV.1 h with rfl | h
  ·omega
  ·have:=zi4 h;omega
theorem zgu:∀ {l:List Trm} {d:Nat},(∀ t∈l,depthT t<=d)->depthL l<=d
 | [],d,h=>by rw [depthL];omega
 | a::r,d,h=>by
  rw [depthL];have h1:=h a (Jv ..);have h2:=zgu (l:=r) fun t ht=>h t (JB _ ht);omega
theorem zdX:∀ (m:Nat) (t:Trm),zcI m t=true->depthT t<=m
 | 0,t,h=>by rw [zcI] at h;cases h
 | m+1,.mk k s kids,h=>by
  rw [zcI,bAT,bAT,Je] at h;rw [depthT];have:=zgu (l:=kids) (d:=m) fun t ht=>zdX m t (h.2.1 t ht);omega
mutual
theorem nodesA_le:∀ t,nodesA t<=501*depthT t
 | .mk k s kids=>by
  rw [nodesA,depthT];have:=nodesAL_le kids 1;omega
theorem nodesAL_le:∀ (l:List Trm) (n:Nat),nodesAL n l<=max n (500+501*depthL l)
 | [],n=>by rw [nodesAL];omega
 | k::r,n=>by
  rw [nodesAL,depthL]
  split
  ·omega
  ·have h1:=nodesA_le k;have h2:=nodesAL_le r (n+nodesA k);omega
end
section
variable {w:World}
def NodC (t:Trm):Prop:=∀ (q:Option Addr) (cap:Nat) (w:World),depthT t<=1000000->KidsT AllB w q t.kids ->
 CB 9 #[.agg (zad t q cap).toArray] w (i64 (nodesA t:Nat))
theorem zsf {k:UInt8} {s:Bs} {kids:List Trm} (ih:∀ y∈kids,NodC y):NodC (.mk k s kids):=by
 intro q cap w hd hK;refine cofM 21 [.agg (zad (.mk k s kids) q cap).toArray] (.c .p (.s .p (.s (.s .p (.b (.l (.s .p (.s .p (.s (.b (.c .p (.s (.s .p .p) .p))) .p)))))) .p))) Tryz.func9 ?_;obtain⟨R,hR⟩:=nm (nodesA (.mk k s kids));rw [<- hR];rw [nodesA] at hR;rw [depthT] at hd;obtain⟨L,hL⟩:=nm (w.heap.size);refine⟨Unit,fun _=>⟨[(1,At0 L)],[]⟩,fun _ X=>X.heap[L]?=some (.cells (zad (.mk k s kids) q cap).toArray 24 (0,0))/\Bw w X,⟨(),⟨.cons (by rw [hL];rfl) .nil,rfl⟩,by rw [hL];exact hnew w _,zba _ _⟩,?_⟩;rintro _ X ⟨f,hb⟩;have hlen:kids.length<=140737488351232:=hK.inv.1;refine⟨_,zac (zaa f) (i:=2) (v := .slice q kids.length cap) rfl,Nat×Nat,fun y=>⟨[(3,i64 (y.2:Nat)),(7,.slice q kids.length cap),(8,i64 (kids.length:Nat)),(9,.int .i64 (y.1:Nat))],[]⟩,fun y X=>Bw w X/\y.1<=kids.length/\R=nodesAL y.2 (kids.drop y.1)/\y.2<=501000501,fun y=>kids.length-y.1,(0,1),(cvE rfl rfl),⟨hb,Jh _,hR,by decide⟩,?_⟩;clear hb hR f X;rintro⟨i,n⟩ X ⟨hb,hi,hR,hn⟩;dsimp only at hi hR hn ⊢;refine biE (fun hc=>?_) fun hc=>?_
 ·have hc:(i:Int)<(kids.length:Int):=dT hc;have hil:i<kids.length:=by omega
  rw [JH hil,nodesAL] at hR;obtain⟨b,o,q2,c2,hq,hc2,hbl,hnl,hkk⟩:=KidsT.kid (l:=kids) (hK.kept hb) hil;subst hq;have hdk:=zi4 (gM hil);obtain⟨u,hu⟩:=nm (kids[i]);have hum:u∈kids:=by rw [hu];exact gM hil
  rw [<- hu] at hR hc2 hkk hdk;refine⟨Nat,fun b5=>⟨[(3,i64 (n:Nat)),(5,At0 b5),(7,.slice (some ⟨b,o,none⟩) kids.length cap),(8,i64 (kids.length:Nat)),(9,.int .i64 (i:Nat))],[]⟩,fun b5 Y=>Y.heap[b5]?=some (.cells (zad u q2 c2).toArray 24 (0,0))/\KidsT AllB Y q2 u.kids/\Bw w Y,?_,?_⟩
  ·exact⟨i,rfl,hil,_,rfl,hc2,hbl,zak (X:=X) (v := .agg (zad u q2 c2).toArray) k24 rfl rfl rfl fun Y hbY fY sY=>⟨X.heap.size,(cvE rfl rfl),fY,hkk.kept hbY,zst hb hbY⟩⟩
  clear hb hc2 hbl hkk X;rintro b5 X ⟨f5,hkk,hb⟩;refine biE (fun h=>?_) fun h=>?_
  ·have h:(500:Int)<(n:Int):=dT h;rw [Kc (by omega)] at hR;rw [hR];exact⟨rfl,hb⟩
  ·have h:¬ (500:Int)<(n:Int):=dF h;rw [JZ (by omega)] at hR;have hle:=nodesA_le u;refine⟨_,rfl,zaa f5,hlt f5,cmo (ih u hum q2 c2 X (by omega) hkk) ?_⟩;rintro e Y ⟨rfl,bY⟩;exact⟨((n+nodesA u:Nat):Int),(zaj (by omega)).trans (by omega),nxI (by omega) ⟨(i+1,n+nodesA u),(cvE rfl rfl),⟨zst hb bY,hil,hR,by show n+nodesA u<=_;omega⟩,zdc (by omega)⟩⟩
 ·have hc:¬ (i:Int)<(kids.length:Int):=dF hc;rw [JI (by omega),nodesAL] at hR;rw [hR];exact⟨rfl,hb⟩
theorem zhD:∀ t,NodC t
 | .mk k s kids=>zsf fun y hy=>zhD y
theorem znU:∀ (m:Nat) (t:Trm) (q:Option Addr) (cap:Nat) (w:World),m<=1000->KidsT AllB w q t.kids ->
  CB 8 #[.agg (zad t q cap).toArray,i64 (m:Nat)] w (.bool (zcI m t))
 | m,.mk k s kids,q,cap,w,hm,hK=>by
  refine cofM 31 [.agg (zad (.mk k s kids) q cap).toArray,i64 (m:Nat)] (.c .p (.c (.s .p .p) (.s (.s .p (.b (.l (.s .p (.s .p (.s (.b (.c .p (.s .p .p))) .p)))))) .p))) Tryz.func8 ?_;obtain⟨L,hL⟩:=nm (w.heap.size);have hlen:kids.length<=140737488351232:=hK.inv.1;refine⟨Unit,fun _=>⟨[(1,i64 (m:Nat)),(2,At0 L)],[]⟩,fun _ X=>X.heap[L]?=some (.cells (zad (.mk k s kids) q cap).toArray 24 (0,0))/\Bw w X,⟨(),⟨.cons rfl (.cons (by rw [hL];rfl) .nil),rfl⟩,by rw [hL];exact hnew w _,zba _ _⟩,?_⟩;rintro _ X ⟨f,hb⟩;obtain⟨R,hR⟩:=nm (zcI m (.mk k s kids));rw [<- hR];refine⟨Nat,fun _=>⟨[(1,i64 (m:Nat)),(2,At0 L)],[]⟩,fun m' X=>X.heap[L]?=some (.cells (zad (.mk k s kids) q cap).toArray 24 (0,0))/\Bw w X/\m=m'+1/\R=(kids.all (zcI m')&&decide (nodesA (.mk k s kids)<=500)),?_,?_⟩
  ·refine biE (fun h=>?_) fun h=>?_
   ·have h:(m:Int)=0:=dT h;obtain rfl:m=0:=(by omega);rw [zcI] at hR;rw [hR];exact brT ⟨rfl,hb⟩
   ·have h:¬ (m:Int)=0:=dF h;obtain⟨m',rfl⟩:∃ m',m=m'+1:=⟨m-1,by omega⟩;rw [zcI] at hR;refine⟨_,zac (zaa f) (i:=2) (v := .slice q kids.length cap) rfl,biE (fun h3=>?_) fun h3=>?_⟩
    ·have h3:(3:Int)<(kids.length:Int):=dT h3;rw [Kb (by omega),JJ] at hR;rw [hR];exact⟨rfl,hb⟩
    ·have h3:¬ (3:Int)<(kids.length:Int):=dF h3;rw [Ka (p:=kids.length<=3) (by omega),Js] at hR;exact⟨m',(cvE rfl rfl),f,hb,rfl,hR⟩
  clear f hb hR X;rintro m' X ⟨f,hb,rfl,hR⟩;refine⟨_,zac (zaa f) (i:=2) (v := .slice q kids.length cap) rfl,Nat,fun i=>⟨[(1,i64 (m'+1:Nat)),(2,At0 L),(16,.slice q kids.length cap),(17,i64 (kids.length:Nat)),(18,.int .i64 (i:Nat))],[]⟩,fun i X=>X.heap[L]?=some (.cells (zad (.mk k s kids) q cap).toArray 24 (0,0))/\Bw w X/\i<=kids.length/\∀ j (h:j<kids.length),j<i->zcI m' kids[j]=true,fun i=>kids.length-i,0,(cvE rfl rfl),⟨f,hb,Jh _,fun j _ h=>Kv h (Nat.not_lt_zero _)⟩,?_⟩;clear f hb X;rintro i X ⟨f,hb,hi,hj⟩;dsimp only at hi hj ⊢;refine biE (fun hc=>?_) fun hc=>?_
  ·have hc:(i:Int)<(kids.length:Int):=dT hc;have hil:i<kids.length:=by omega
   obtain⟨b,o,q2,c2,hq,hc2,hbl,hnl,hkk⟩:=KidsT.kid (l:=kids) (hK.kept hb) hil;subst hq;obtain⟨u,hu⟩:=nm (kids[i]);have hum:u∈kids:=by rw [hu];exact gM hil
   rw [<- hu] at hc2 hkk;refine⟨Nat,fun b5=>⟨[(1,i64 (m'+1:Nat)),(2,At0 L),(6,At0 b5),(16,.slice (some ⟨b,o,none⟩) kids.length cap),(17,i64 (kids.length:Nat)),(18,.int .i64 (i:Nat))],[]⟩,fun b5 Y=>Y.heap[L]?=some (.cells (zad (.mk k s kids) (some ⟨b,o,none⟩) cap).toArray 24 (0,0))/\Y.heap[b5]?=some (.cells (zad u q2 c2).toArray 24 (0,0))/\KidsT AllB Y q2 u.kids/\Bw w Y,?_,?_⟩
   ·exact⟨i,rfl,hil,_,rfl,hc2,hbl,zak (X:=X) (v := .agg (zad u q2 c2).toArray) k24 rfl rfl rfl fun Y hbY fY sY=>⟨X.heap.size,(cvE rfl rfl),zab hbY f,fY,hkk.kept hbY,zst hb hbY⟩⟩
   clear f hb hc2 hbl hkk X;rintro b5 X ⟨f,f5,hkk,hb⟩;refine⟨_,rfl,zaa f5,hlt f5,((m':Nat):Int),(zaj (by omega)).trans (by omega),cmo (znU m' u q2 c2 X (by omega) hkk) ?_⟩;rintro e Y ⟨rfl,bY⟩;refine biE (fun h=>?_) fun h=>?_
   ·have h:(!zcI m' u)=true:=h;have:kids.all (zcI m')=false:=List.all_eq_false.2 ⟨u,hum,by rw [notB h];decide⟩;rw [this,JJ] at hR;rw [hR];exact⟨rfl,zst hb bY⟩
   ·have h:(!zcI m' u)=false:=h;refine nxI (by omega) ⟨i+1,(cvE rfl rfl),⟨zab bY f,zst hb bY,hil,fun j hj1 hj2=>?_⟩,zdc (by omega)⟩;by_cases e:j=i
    ·subst e;rw [<- hu];exact notF h
    ·exact hj j hj1 (by omega)
  ·have hc:¬ (i:Int)<(kids.length:Int):=dF hc;have hall:kids.all (zcI m')=true:=Je.2 fun y hy=>by
    obtain⟨j,hj1,rfl⟩:=List.mem_iff_getElem.1 hy;exact hj j hj1 (by omega)
   rw [hall,Js] at hR;have hdep:depthT (.mk k s kids)<=1000000:=by
    rw [depthT];have:=zgu (l:=kids) (d:=m') fun t ht=>zdX m' t (Je.1 hall t ht);omega
   refine⟨_,rfl,zaa f,hlt f,cmo (zhD (.mk k s kids) q cap X hdep (hK.kept hb)) ?_⟩;rintro e Y ⟨rfl,bY⟩;refine⟨rb ?_,zst hb bY⟩;rw [hR];show decide (((nodesA (.mk k s kids):Nat):Int)<=500)=_;rw [Kd];omega
end
mutual
def putA (u:Trm):Trm->Trm
 | .mk k s kids=>if k=1/\(s=[112,111]/\kids.length=0) then u else .mk k s (putAL u kids)
def putAL (u:Trm):List Trm->List Trm
 | []=>[]
 | y::r=>putA u y::putAL u r
end
theorem zet (u:Trm):∀ l:List Trm,putAL u l=l.map (putA u)
 | []=>by rw [putAL];rfl
 | y::r=>by rw [putAL,zet u r];rfl
abbrev TrmX:=Trm×Option Addr×Nat
def trmE:Enc TrmX:=⟨fun x=>zad x.1 x.2.1 x.2.2,3,fun _=>rfl,by decide,fun a u hu=>by
 simp only [zad,JV,List.not_mem_nil,or_false] at hu;rcases hu with rfl | rfl | rfl <;> rfl⟩
section
variable {Q:Nat->Prop} {w X:World} {p:Option Addr} {rows:List TrmX}
theorem zjB (hr:SlR trmE X p rows) (hn:rows.length<=140737488351232) (hq:∀ a,p=some a->rows≠[]->Q a.block) (hk:∀ y∈rows,y.1.name.length<=140737488351232/\KidsT Q X y.2.1 y.1.kids):KidsT Q X p (rows.map (·.1)):=by
 by_cases h0:rows=[]
 ·subst h0;exact .nil
 have hl:0<rows.length:=List.length_pos_iff.2 h0;obtain⟨b,o,rfl,hb,hat⟩:=hr.at hl;have hQb:=hq _ rfl h0;refine .mk _ (rows.map (·.1)) (by rw [Jc];exact hn) b o (.inr rfl) (fun i=>(rows.getD i (.mk 0 [] [],none,0)).2.1) (fun i=>(rows.getD i (.mk 0 [] [],none,0)).2.2) (fun i hi=>?_) (fun i hi=>?_)
 ·have hi':i<rows.length:=by rw [Jc] at hi;exact hi
  have e:rows.getD i (.mk 0 [] [],none,0)=rows[i]:=by rw [gDe,gE hi'];rfl
  rw [Ke,e];exact⟨(hk _ (gM hi')).1,hQb,hat i hi'⟩
 ·have hi':i<rows.length:=by rw [Jc] at hi;exact hi
  have e:rows.getD i (.mk 0 [] [],none,0)=rows[i]:=by rw [gDe,gE hi'];rfl
  rw [Ke,e];exact (hk _ (gM hi')).2
structure PuB (w:World) (L:Nat) (t:Trm) (q:Option Addr) (cap:Nat) (u:Trm) (qu:Option Addr) (cu:Nat) (X:World):Prop where
 t:X.heap[L]?=some (.cells (zad t q cap).toArray 24 (0,0))
 u:X.heap[L+1]?=some (.cells (zad u qu cu).toArray 24 (0,0))
 z:X.heap[L+2]?=some (.cells (zad zT none 0).toArray 24 (0,0))
 b:Bw w X
 s:L+3<=X.heap.size
theorem PuB.upto {L:Nat} {t u:Trm} {q qu:Option Addr} {cap cu:Nat} {Y:World} (h:PuB w L t q cap u qu cu X) (hL:w.heap.size<=L+3) (hb:Below (L+3) X Y):PuB w L t q cap u qu cu Y :=
 ⟨(hb.block _ (by omega)).trans h.t,(hb.block _ (by omega)).trans h.u,(hb.block _ (by omega)).trans h.z,h.b.trans (hb.mono hL),Jj h.s hb.size⟩
def PutC (t:Trm):Prop:=∀ (Q:Nat->Prop) (u:Trm) (q qu:Option Addr) (cap cu:Nat) (w:World),(∃ m,zcI m t=true)->(∀ b,Q b->b<w.heap.size)->KidsT Q w q t.kids->KidsT Q w qu u.kids->t.name.length<=140737488351232->u.name.length<=140737488351232 ->
 Calls Tryz.prog 14 #[.agg (zad t q cap).toArray,.agg (zad u qu cu).toArray] w fun e w'=>∃ r c,e = .returned (.agg (zad (putA u t) r c).toArray)/\KidsT (fun b=>Q b\/w.heap.size<=b) w' r (putA u t).kids/\(putA u t).name.length<=140737488351232/\Bw w w'
theorem zr2 {k:UInt8} {s:Bs} {kids:List Trm} (ih:∀ y∈kids,PutC y):PutC (.mk k s kids):=by
 intro Q u q qu cap cu w hfl hQ hK hU hs hus;obtain⟨kl3,hkf⟩:kids.length<=3/\∀ y∈kids,∃ m,zcI m y=true:=by
  obtain⟨m,hm⟩:=hfl
  cases m with
  | zero=>rw [zcI] at hm;cases hm
  | succ m =>
   rw [zcI,bAT,bAT,Je,dE] at hm;exact⟨hm.1,fun y hy=>⟨m,hm.2.1 y hy⟩⟩
 refine cofM 45 [.agg (zad (.mk k s kids) q cap).toArray,.agg (zad u qu cu).toArray] (.c .p (.c (.s .p .p) (.c .p (.s (.s .p (.b (.l (.s .p (.s .p (.s (.b (.c .p .p)) .p)))))) .p)))) Tryz.func14 ?_;obtain⟨L,hL⟩:=nm (w.heap.size);have hL3:w.heap.size<=L+3:=by omega
 have hlen:kids.length<=140737488351232:=hK.inv.1;refine⟨Unit,fun _=>⟨[(2,At0 L),(3,At0 (L+1)),(4,At0 (L+2))],[]⟩,fun _ X=>PuB w L (.mk k s kids) q cap u qu cu X,?_,?_⟩
 ·obtain⟨W1,e1⟩:=nm (w.alloc (.cells (zad (.mk k s kids) q cap).toArray 24));have n1:W1.heap.size=L+1:=by rw [e1,hL];exact wz _ _
  have f1:W1.heap[L]?=some (.cells (zad (.mk k s kids) q cap).toArray 24 (0,0)):=by rw [e1,hL];exact hnew w _
  have b1:Bw w W1:=by rw [e1];exact zba _ _
  obtain⟨W2,e2⟩:=nm (W1.alloc (.cells (zad u qu cu).toArray 24));have n2:W2.heap.size=L+2:=by rw [e2,wz,n1]
  have f2:W2.heap[L+1]?=some (.cells (zad u qu cu).toArray 24 (0,0)):=by rw [e2,<- n1];exact hnew W1 _
  have b2:Bw W1 W2:=by rw [e2];exact zba _ _
  obtain⟨W3,e3⟩:=nm (W2.alloc (.cells (zad zT none 0).toArray 24));have n3:W3.heap.size=L+3:=by rw [e3,wz,n2]
  have f3:W3.heap[L+2]?=some (.cells (zad zT none 0).toArray 24 (0,0)):=by rw [e3,<- n2];exact hnew W2 _
  have b3:Bw W2 W3:=by rw [e3];exact zba _ _
  have key:PuB w L (.mk k s kids) q cap u qu cu W3:=⟨zab b3 (zab b2 f1),zab b3 f2,f3,zst b1 (zst b2 b3),by omega⟩;rw [e3,e2,e1] at key;rw [e1] at n1;rw [e2,e1] at n2;exact⟨(),⟨.cons (by rw [hL];rfl) (.cons (congrArg (fun n=>some (At0 n)) n1) (.cons (congrArg (fun n=>some (At0 n)) n2) .nil)),rfl⟩,key⟩
 rintro _ X hX;refine⟨Unit,fun _=>⟨[(2,At0 L),(3,At0 (L+1)),(4,At0 (L+2))],[]⟩,fun _ X=>PuB w L (.mk k s kids) q cap u qu cu X/\¬ (k=1/\(s=[112,111]/\kids.length=0)),?_,?_⟩
 ·refine⟨_,zac (zaa hX.t) (i:=0) rfl,biE (fun h1=>?_) fun h1=>?_⟩
  ·have h1:k=1:=dT ((zbq k 1).symm.trans h1);refine⟨_,zac (zaa hX.t) (i:=1) rfl,_,fun w=>zax _ _ s [112,111] w,biE (fun h2=>?_) fun h2=>?_⟩
   ·have h2:s=[112,111]:=dT h2;refine⟨_,zac (zaa hX.t) (i:=2) (v := .slice q kids.length cap) rfl,biE (fun h3=>?_) fun h3=>?_⟩
    ·have h3:(kids.length:Int)=0:=dT h3;have e:putA u (.mk k s kids)=u:=(by rw [putA,Kc ⟨h1,h2,by omega⟩]);rw [e];refine⟨_,rfl,zaa hX.u,hlt hX.u,zao (v := .agg (zad u qu cu).toArray) k24 hX.z rfl rfl rfl ⟨zad u qu cu,rfl,zaa (zal hX.z),qu,cu,rfl,?_,hus,zah hX.b (by omega) _⟩⟩;exact (hU.by fun g cs ty fr hg hc=>by
      have:=hQ g hg;exact (zam (by omega)).trans (hX.b.block g this)).weak fun b hb => .inl hb
    ·have h3:¬ (kids.length:Int)=0:=dF h3;exact⟨(),(cvE rfl rfl),hX,fun h=>h3 (by omega)⟩
   ·have h2:¬ s=[112,111]:=dF h2;exact brF ⟨(),(cvE rfl rfl),hX,fun h=>h2 h.2.1⟩
  ·have h1:k≠1:=dF ((zbq k 1).symm.trans h1);exact brF (brF ⟨(),(cvE rfl rfl),hX,fun h=>h1 h.1⟩)
 clear hX X;rintro _ X ⟨hX,hno⟩;have e:putA u (.mk k s kids) = .mk k s (putAL u kids):=by rw [putA,JZ hno]
 rw [e];obtain⟨B,hB⟩:=nm (X.heap.size+1);have hBs:=hX.b.size;have hB3:=hX.s;refine⟨Nat,fun b5=>⟨[(2,At0 L),(3,At0 (L+1)),(4,At0 (L+2)),(5,At0 b5)],[]⟩,fun b5 X=>PuB w L (.mk k s kids) q cap u qu cu X/\X.heap[b5]?=some (.cells (zad (.mk k s []) none 0).toArray 24 (0,0))/\L+3<=b5/\b5<B/\B<=X.heap.size,?_,?_⟩
 ·exact⟨_,zac (zaa hX.t) (i:=0) rfl,_,zac (zaa hX.t) (i:=1) rfl,zad (.mk k s []) none 0,rfl,zak (X:=X) (v := .agg (zad (.mk k s []) none 0).toArray) k24 rfl rfl rfl fun Z hbZ fZ sZ=>⟨X.heap.size,(cvE rfl rfl),hX.upto hL3 (hbZ.mono hX.s),fZ,hX.s,by omega,by omega⟩⟩
 clear hX;rintro b5 X ⟨hX,f5,h5a,h5b,hXB⟩;refine⟨_,zac (zaa hX.t) (i:=2) (v := .slice q kids.length cap) rfl,Nat×List TrmX×Option Addr×Nat,fun y=>⟨[(2,At0 L),(3,At0 (L+1)),(4,At0 (L+2)),(5,At0 b5),(29,.slice q kids.length cap),(30,i64 (kids.length:Nat)),(31,.int .i64 (y.1:Nat))],[]⟩,fun y X=>PuB w L (.mk k s kids) q cap u qu cu X/\X.heap[b5]?=some (.cells (zad (.mk k s (y.2.1.map (·.1))) y.2.2.1 y.2.2.2).toArray 24 (0,0))/\B<=X.heap.size/\y.1<=kids.length/\y.2.1.map (·.1)=putAL u (kids.take y.1)/\OwnS trmE 24 B X y.2.2.1 y.2.2.2 y.2.1/\∀ z∈y.2.1,z.1.name.length<=140737488351232/\KidsT (fun b=>(Q b\/B<=b)/\∀ a,y.2.2.1=some a->a.block≠b) X z.2.1 z.1.kids,fun y=>kids.length-y.1,(0,[],none,0),(cvE rfl rfl),⟨hX,f5,hXB,Jh _,by rw [List.take_zero,putAL];rfl,OwnS.nil,fun z hz=>by cases hz⟩,?_⟩;clear hX f5 hXB X;rintro⟨i,rows,p,cp⟩ X ⟨hX,f5,hXB,hi,hrm,ho,hk⟩;dsimp only at f5 hi hrm ho hk ⊢;have hrl:rows.length=i:=by
  have:=congrArg List.length hrm;rw [Jc,zet,Jc,JD] at this;omega
 refine biE (fun hc=>?_) fun hc=>?_
 ·have hc:(i:Int)<(kids.length:Int):=dT hc;have hil:i<kids.length:=by omega
  have hKX:KidsT Q X q kids:=hK.by fun g cs ty fr hg hc=>hX.b.block g (hQ g hg)
  have hUX:KidsT Q X qu u.kids:=hU.by fun g cs ty fr hg hc=>hX.b.block g (hQ g hg)
  obtain⟨b,o,q2,c2,hq,hc2,hbl,hnl,hkk⟩:=KidsT.kid (l:=kids) hKX hil;subst hq;obtain⟨y,hy⟩:=nm (kids[i]);have hym:y∈kids:=by rw [hy];exact gM hil
  have htake:putAL u (kids.take (i+1))=putAL u (kids.take i)++[putA u y]:=by
   rw [tsg hil,zet,zet,Jw,hy];rfl
  rw [<- hy] at hc2 hkk hnl;refine⟨Nat,fun b7=>⟨[(2,At0 L),(3,At0 (L+1)),(4,At0 (L+2)),(5,At0 b5),(7,At0 b7),(29,.slice (some ⟨b,o,none⟩) kids.length cap),(30,i64 (kids.length:Nat)),(31,.int .i64 (i:Nat))],[]⟩,fun b7 X=>PuB w L (.mk k s kids) (some ⟨b,o,none⟩) cap u qu cu X/\X.heap[b5]?=some (.cells (zad (.mk k s (rows.map (·.1))) p cp).toArray 24 (0,0))/\B<=X.heap.size/\OwnS trmE 24 B X p cp rows/\(∀ z∈rows,z.1.name.length<=140737488351232/\KidsT (fun b=>(Q b\/B<=b)/\∀ a,p=some a->a.block≠b) X z.2.1 z.1.kids)/\X.heap[b7]?=some (.cells (zad y q2 c2).toArray 24 (0,0))/\KidsT Q X q2 y.kids/\KidsT Q X qu u.kids,?_,?_⟩
  ·exact⟨i,rfl,hil,_,rfl,hc2,hbl,zak (X:=X) (v := .agg (zad y q2 c2).toArray) k24 rfl rfl rfl fun Z hbZ fZ sZ=>⟨X.heap.size,(cvE rfl rfl),hX.upto hL3 (hbZ.mono hX.s),zab hbZ f5,Jj hXB hbZ.size,ho.below hbZ,fun z hz=>⟨(hk z hz).1,(hk z hz).2.kept hbZ⟩,fZ,hkk.kept hbZ,hUX.kept hbZ⟩⟩
  clear hX f5 hXB ho hk hc2 hbl hkk hKX hUX X;rintro b7 X ⟨hX,f5,hXB,ho,hk,f7,hkk,hUX⟩;have bd:=(Ja X.heap.size X).drew;refine DrawE.ord [6,8] [0,1,2,3,4,5,6,7,8] (by kernel_rfl) ⟨.slice p rows.length cp,by have:=zac (zaa (hdr f5)) (i:=2) (v := .slice p rows.length cp) (by show some (Value.slice p (rows.map (·.1)).length cp)=_;rw [Jc]);exact this,_,rfl,zaa (hdr f7),hlt (hdr f7),_,rfl,zaa (hdr hX.u),hlt (hdr hX.u),?_⟩;have hXd:=hX.b.size;refine cmo (ih y hym Q u q2 qu c2 cu X.drew (hkf y hym) (fun b hb=>by have:=hQ b hb;have:=bd.size;omega) (hkk.kept bd) (hUX.kept bd) hnl hus) ?_;rintro e V ⟨r,c,rfl,hkV,hnV,bV⟩;refine⟨bV,⟨by decide,by decide,rfl⟩,zad (putA u y) r c,rfl,zba _ _,?_⟩;have bXV:=zst bd bV;have hba:Bw V (V.alloc (.cells (trmE.enc (putA u y,r,c)).toArray 24)):=zba _ _;have sa:(V.alloc (.cells (trmE.enc (putA u y,r,c)).toArray 24)).heap.size=V.heap.size+1:=wz _ _;have hVs:=bXV.size;have hoV:=(ho.below bXV).below hba;refine zbp (E:=trmE) (T:=24) (B:=B) (l:=rows) (news:=[(putA u y,r,c)]) (cap:=cp) (m:=1) Tryz.underlying22 k24 rfl rfl rfl hoV rfl (za2 trmE (putA u y,r,c)) (by omega) (by omega) (by show (rows.length+1)*48<=_;omega) ?_;intro p2 c3 T oT gT bT hat;obtain⟨V',hV'⟩:∃ V',V'=V.alloc (.cells (trmE.enc (putA u y,r,c)).toArray 24):=⟨_,rfl⟩;rw [<- hV'] at hba sa gT bT hat hoV;have f5T:=(bT.block b5 h5b).trans (zab hba (zab bXV f5));have own:∀ {b:Nat},(∀ a,p=some a->a.block≠b)->(Value.slice p rows.length cp).ownBlock≠some b:=fun {b} hb e=>by
   cases p with
   | none=>cases e
   | some a=>exact hb a rfl (Jg e)
  refine zaq k22 f5T (o:=2) (v := .slice p2 (rows++[(putA u y,r,c)]).length c3) rfl rfl (by show 2<3;decide) rfl fun Z fZ gZ sZ=>?_;have e9:(zad (.mk k s (rows.map (·.1))) p cp).set 2 (.slice p2 (rows++[(putA u y,r,c)]).length c3)=zad (.mk k s ((rows++[(putA u y,r,c)]).map (·.1))) p2 c3:=by
   show [_,_,_]=[_,_,Value.slice p2 ((rows++[(putA u y,r,c)]).map (·.1)).length c3];rw [Jc];rfl
  rw [e9] at fZ;have bTZ:Below (L+3) T Z:=⟨gZ.os,gZ.tape,gZ.output,gZ.size,fun j hj=>gZ.block j (by have:=bT.size;omega) (by simp;omega)⟩;have bXT:Below (L+3) X T:=(bXV.mono hX.s).trans ((hba.mono (by omega)).trans (bT.mono (by omega)));have hTs:=bT.size;have hZs:=gZ.size;have keep:∀ {b:Nat},b<V.heap.size->(∀ a,p=some a->a.block≠b)->b≠b5->Z.heap[b]?=V.heap[b]?:=fun {b} h1 h2 h3 =>
   (gZ.block b (by omega) (by simp;omega)).trans ((gT.block b (by omega) (own h2).symm).trans (hba.block b h1))
  have pown:∀ a,p=some a->B<=a.block/\a.block<X.heap.size:=fun a ha=>⟨(zau ho ha).1,(zau ho ha).2.1⟩;refine nxI (by omega) ⟨(i+1,rows++[(putA u y,r,c)],p2,c3),(cvE rfl rfl),⟨hX.upto hL3 (bXT.trans bTZ),fZ,by omega,hil,?_,oT.kept gZ fun g hg e=>?_,fun z hz=>?_⟩,zdc (by omega)⟩
  ·show (rows++[(putA u y,r,c)]).map (·.1)=putAL u (kids.take (i+1));rw [htake,Jw,hrm];rfl
  ·have h5:B<=g:=(zau oT hg).1;simp at e;omega
  ·rcases JM.1 hz with hz | hz
   ·refine⟨(hk z hz).1,((hk z hz).2.there.by fun g cs ty fr hg hc=>?_).weak fun b hb=>⟨hb.1.1,fun a ha=>?_⟩⟩
    ·refine (keep (by omega) hg.1.2 ?_).trans (bXV.block g hg.2);rcases hg.1.1 with h | h
     ·have:=hQ g h;omega
     ·omega
    ·rcases hat a ha with h | h
     ·exact hb.1.2 a h
     ·have:=hb.2;omega
   ·obtain rfl:=Jl.1 hz;refine⟨hnV,?_⟩;have far:∀ b,(Q b\/X.drew.heap.size<=b)->∀ a,p=some a->a.block≠b:=fun b hb a ha e=>by
     have h1:=pown a ha;rcases hb with h | h
     ·have:=hQ b h;omega
     ·have:X.heap.size<=b:=h;omega
    refine (hkV.there.by fun g cs ty fr hg hc=>?_).weak fun b hb=>⟨?_,fun a ha=>?_⟩
    ·refine keep hg.2 (far g hg.1) ?_;rcases hg.1 with h | h
     ·have:=hQ g h;omega
     ·have:X.heap.size<=g:=h;omega
    ·rcases hb.1 with h | h
     ·exact .inl h
     ·have:X.heap.size<=b:=h;right;omega
    ·rcases hat a ha with h | h
     ·exact far b hb.1 a h
     ·have:=hb.2;omega
 ·have hc:¬ (i:Int)<(kids.length:Int):=dF hc;have hir:i=kids.length:=by omega
  obtain⟨T,hT⟩:=nm (zad (.mk k s (rows.map (·.1))) p cp);have hT3:T.length=3:=by rw [hT];rfl
  have hTo:T.all Value.oneCell'=true:=by rw [hT];rfl
  rw [<- hT] at f5;refine⟨T,hT3,zaa f5,hlt f5,zao (v := .agg T.toArray) k24 hX.z hT3 rfl hTo ?_⟩;have er:putAL u kids=rows.map (·.1):=by rw [hrm,hir,JF]
  have hlow:=hX.b.size;have gs:=zaL X (L+2) (Value.agg T.toArray).cells;refine⟨T,hT3,zaa (zal hX.z),p,cp,by rw [er,hT];rfl,?_,hs,zah hX.b (by omega) _⟩;rw [er];refine zjB (rows:=rows) ((ho.kept gs fun g hg e=>?_).row) (by omega) (fun a ha _ => .inr ?_) fun z hz=>⟨(hk z hz).1,?_⟩
  ·have h5:B<=g:=(zau ho hg).1;simp at e;omega
  ·have:=(zau ho ha).1;omega
  ·refine ((hk z hz).2.by fun g cs ty fr hg hc=>?_).weak fun b hb=>?_
   ·refine zam ?_;rcases hg.1 with h | h
    ·have:=hQ g h;omega
    ·omega
   ·rcases hb.1 with h | h
    ·exact .inl h
    ·right;omega
theorem zgQ:∀ t,PutC t
 | .mk k s kids=>zr2 fun y hy=>zgQ y
end
end Go.Proofs.YtnadlhpkpnfmbaaGreatDoor
namespace Go.Proofs.YtnadlhpkpnfmbaaGreatDoor
open Go.Vc
def txT1:Bs:=[97,99,121,99,108,105,99,32,112,111,32,124,32,114,102,32,124,32,99,111,32,124,32,102,114,32,97,115,32,111,114,100,101,114]
abbrev nmT (s:Bs):Trm := .mk 1 s []
def txT3:Bs:=[97,99,121,99,108,105,99,32,40,112,111,32,124,32,114,102,41,43,32,97,115,32,120]
end Go.Proofs.YtnadlhpkpnfmbaaGreatDoor
namespace Go.Proofs.YtnadlhpkpnfmbaaGreatDoor
open Go.Vc Go.RowKit Go.Sei
def SPr (a b:Pr):Prop:=a.deep=b.deep/\a.most=b.most
theorem SPr.put {a b:Pr} (h:SPr a b) (s t:Bs):SPr (putW a s) (putW b t):=h
mutual
theorem prT_sp:∀ (t:Trm) {a b:Pr},SPr a b->SPr (prT a t) (prT b t)
 | .mk k s kids,a,b,h=>by
  rw [prT,prT]
  split
  ·exact h
  split
  ·exact h
  split
  ·exact prH_sp kids 5 h
  ·exact prL_sp kids (strN k.toNat+1) (prH_sp kids (strN k.toNat) h)
theorem prH_sp:∀ (l:List Trm) (n:Nat) {a b:Pr},SPr a b->SPr (prHead a n l) (prHead b n l)
 | [],n,a,b,h=>by rw [prHead,prHead];exact h
 | t::r,n,a,b,h=>by
  rw [prHead,prHead]
  split
  ·exact prT_sp t h
  ·have h2:SPr (putW { a with deep:=a.deep+1,most:=max a.most (a.deep+1) } [40]) (putW { b with deep:=b.deep+1,most:=max b.most (b.deep+1) } [40]):=by
    obtain⟨h1,h3⟩:=h;exact⟨by show a.deep+1=b.deep+1;rw [h1],by show max a.most (a.deep+1)=max b.most (b.deep+1);rw [h1,h3]⟩
   have h3:=prT_sp t h2;exact⟨by show (prT _ t).deep-1=(prT _ t).deep-1;rw [h3.1],h3.2⟩
theorem prL_sp:∀ (l:List Trm) (n:Nat) {a b:Pr},SPr a b->SPr (prTail a n l) (prTail b n l)
 | [],n,a,b,h=>by rw [prTail,prTail];exact h
 | t::r,n,a,b,h=>by rw [prTail,prTail];exact prH_sp r n h
end
section
variable (x:ExD) (g:Bs->RelD) (a:Trm)
mutual
theorem sub_val:∀ (b:Trm) (n:Nat),(chkT (fun _=>false) n (putA a b)).1=true->valT x (letR g [97] (valT x g a)) (putA (nmT [97]) b)=valT x g (putA a b)
 | .mk k s kids,n,h=>by
  by_cases hp:k=1/\(s=[112,111]/\kids.length=0)
  ·rw [putA,Kc hp,putA,Kc hp,valT,Kc rfl];unfold letR;rw [Kc rfl]
  ·rw [putA,JZ hp] at h ⊢;rw [putA,JZ hp];rw [chkT] at h;rw [valT,valT]
   split at h
   ·cases h
   split at h
   ·rename_i h1;rw [Kc h1,Kc h1];have hr:relB s=true:=(by simpa using h);unfold letR;rw [JZ];rintro rfl;exact Kv hr (by decide)
   rename_i h1;rw [JZ h1,JZ h1]
   split at h
   ·rename_i h9;rw [Kc h9,Kc h9]
   rename_i h9;rw [JZ h9,JZ h9]
   split at h
   ·cases h
   have hv:=sub_vals kids (n+1) h;have hH:valH x (letR g [97] (valT x g a)) (putAL (nmT [97]) kids)=valH x g (putAL a kids):=by
    cases kids with
    | nil=>rw [putAL,putAL,valH,valH]
    | cons y r=>rw [putAL,putAL,valH,valH];exact hv y (Jv ..)
   have hS:valS x (letR g [97] (valT x g a)) (putAL (nmT [97]) kids)=valS x g (putAL a kids):=by
    cases kids with
    | nil=>rw [putAL,putAL,valS,valS]
    | cons y r =>
     rw [putAL,putAL,valS,valS]
     cases r with
     | nil=>rw [putAL,putAL,valH,valH]
     | cons z r=>rw [putAL,putAL,valH,valH];exact hv z (JB _ (Jv ..))
   rw [hH,hS]
theorem sub_vals:∀ (l:List Trm) (n:Nat),(chkL (fun _=>false) n (putAL a l)).1=true->∀ y∈l,valT x (letR g [97] (valT x g a)) (putA (nmT [97]) y)=valT x g (putA a y)
 | [],n,h,y,hy=>by cases hy
 | z::r,n,h,y,hy=>by
  rw [putAL,chkL] at h
  split at h
  ·cases h
  ·rename_i n2 e;rcases JV.1 hy with e2 | hy
   ·rw [e2];exact sub_val z n (by rw [e])
   ·exact sub_vals r n2 h y hy
end
end
theorem zgZ:∀ (l:List Trm) (n:Nat),n<=nodesAL n l
 | [],n=>by rw [nodesAL];omega
 | k::r,n=>by
  rw [nodesAL]
  split
  ·omega
  ·have:=zgZ r (n+nodesA k);omega
mutual
theorem nodes_eq:∀ t,nodesA t<=500->nodesA t=nodesT t
 | .mk k s kids,h=>by
  rw [nodesA] at h ⊢;rw [nodesT];have:=nodesL_eq kids 1 h;omega
theorem nodesL_eq:∀ (l:List Trm) (n:Nat),nodesAL n l<=500->nodesAL n l=n+nodesK l
 | [],n,h=>by rw [nodesAL,nodesK];omega
 | k::r,n,h=>by
  rw [nodesAL] at h ⊢;rw [nodesK]
  split at h
  ·omega
  ·rename_i hn;have h1:=zgZ r (n+nodesA k);have h2:=nodes_eq k (by omega);have h3:=nodesL_eq r (n+nodesA k) h;rw [JZ hn,h3,h2];omega
end
theorem zsl {a:Trm} {m:Nat} (hc:chkT (fun _=>false) 0 a=(true,m)) (hn:nodesT a<=50) (hm:¬ (prT ⟨[],0,0⟩ a).most > 50):∃ s,zbW [⟨0,[97],a⟩]=some (s,setP (fun _=>false) [97]):=by
 obtain⟨hv,_⟩:=zeN (fun _=>false) (fun s hs=>by cases hs) a 0 m hc;have hl:zaK (fun _=>false) (fun _=>false) 0 [⟨0,[97],a⟩]=(true,setP (fun _=>false) [97]):=by
  rw [zaK];rw [JZ (by rintro (h | h);exact Kv (show 0 > 3 from h) (by decide);exact Kv (show zeC [97]=false from h) (by decide))];dsimp only;rw [hc];dsimp only;rw [Kc rfl,JZ (by decide),zaK]
 unfold zbW;rw [JZ (by show ¬ 1 > 40;decide),hl];dsimp only [List.foldl];obtain⟨w0,hw0⟩:=nm (putW (putW (putW (putW (⟨[],0,0⟩:Pr) (zaW.getD 0 [])) [32]) [97]) [32,61,32]);have hp:zc3 ⟨[],0,0⟩ ⟨0,[97],a⟩=putW (prT w0 a) [10]:=by unfold zc3;rw [hw0];rfl
 rw [hp];have h1:=zec a hv w0;have hs:SPr w0 ⟨[],0,0⟩:=by rw [hw0];exact⟨rfl,rfl⟩
 have h2:=prT_sp a hs;have ht:w0.text.length=8:=by rw [hw0];rfl
 have ht2:(putW (prT w0 a) [10]).text.length=(prT w0 a).text.length+1:=za1 _ _;have hmm:(putW (prT w0 a) [10]).most=(prT ⟨[],0,0⟩ a).most:=h2.2;rw [JZ]
 ·exact⟨_,rfl⟩
 ·rintro (h | h)
  ·have:=h1.1;omega
  ·omega
theorem zo3:zbW []=some ([],fun _=>false):=by
 unfold zbW;rw [JZ (by decide),zaK];rfl
theorem zkE {a:Trm} {x:ExD} {r:RelD} (h:zdx a [] x=some r):(∃ m,chkT (fun _=>false) 0 a=(true,m))/\za0 x=true/\¬ (prT ⟨[],0,0⟩ a).most > 50/\r=valT x (zdl x) a:=by
 unfold zdx at h;rw [zo3] at h;dsimp only at h
 split at h
 ·rename_i hc;rw [bAT] at hc
  split at h
  ·cases h
  ·rename_i hm;refine⟨⟨(chkT (fun _=>false) 0 a).2,?_⟩,hc.2,hm,(Jg h).symm⟩;rw [<- hc.1]
 ·cases h
theorem zoP {a:Trm} {x:ExD} {r:RelD} (h:zdx a [] x=some r) (hn:nodesT a<=50):zdx (nmT [97]) [⟨0,[97],a⟩] x=some r:=by
 obtain⟨⟨m,hc⟩,hr,hm,e⟩:=zkE h;obtain⟨s,hs⟩:=zsl hc hn hm;unfold zdx;rw [hs];dsimp only;have h1:(chkT (setP (fun _=>false) [97]) 0 (nmT [97])).1=true:=by
  rw [chkT,JZ (by rintro (h | h | h);omega;exact Kv h (by decide);exact h rfl),Kc rfl];rfl
 rw [h1,hr,Kc (show (true&&true)=true from rfl)];have h2:¬ (prT ⟨[],0,0⟩ (nmT [97])).most > 50:=by rw [prT,Kc rfl];show ¬ 0 > 50;decide
 rw [JZ h2,valT,Kc rfl];show some (letR (zdl x) [97] (valT x (zdl x) a) [97])=some r;unfold letR;rw [Kc rfl,e]
theorem zqD {a b:Trm} {x:ExD} {t u:RelD} (h1:zdx (putA (nmT [97]) b) [⟨0,[97],a⟩] x=some t) (h2:zdx (putA a b) [] x=some u):t=u:=by
 obtain⟨⟨m,hc⟩,hr,hm,e⟩:=zkE h2;have h3:=sub_val x (zdl x) a b 0 (by rw [hc]);unfold zdx at h1
 split at h1
 ·cases h1
 ·split at h1
  ·split at h1
   ·cases h1
   ·rw [e,<- h3];exact (Jg h1).symm
  ·cases h1
end Go.Proofs.YtnadlhpkpnfmbaaGreatDoor
namespace Go.Sei
def zeu (ns:List Nat):Nat:=ns.foldl (· * ·) 1
theorem zgR (ns:List Nat) (n:Nat):zeu (ns++[n])=zeu ns*n:=by
 unfold zeu;rw [Kt];rfl
def zmP (init:List UInt8) (Ts:List (List PathD)):List MixD:=(zeq (Ts.map List.length)).filterMap fun ds=>mixR init (zex Ts ds)
theorem zgT:∀ (Ts:List (List PathD)) (ds:List Nat) (T:List PathD) (d:Nat),Ts.length=ds.length->zex (Ts++[T]) (ds++[d])=zex Ts ds++(match T[d]? with | some P=>[P] | none=>[])
 | [],[],T,d,_=>by
  show (match T[d]? with | some P=>[P] | none=>[])++[]=_;rw [Jk];rfl
 | [],_::_,_,_,h=>by simp at h
 | _::_,[],_,_,h=>by simp at h
 | A::Ts,e::ds,T,d,h=>by
  show (match A[e]? with | some P=>[P] | none=>[])++zex (Ts++[T]) (ds++[d])=((match A[e]? with | some P=>[P] | none=>[])++zex Ts ds)++_;rw [zgT Ts ds T d (by simpa using h),Jr]
theorem zla (ns:List Nat) (n:Nat):zbc (ns++[n])=zbc ns*n:=by
 rw [zev];show _*(n*1)=_;rw [Jp]
theorem zi0:∀ (ns:List Nat) (a:Nat),ns.foldl (· * ·) a=a*zbc ns
 | [],a=>(Jp a).symm
 | n::ns,a=>by
  show ns.foldl (· * ·) (a*n)=a*(n*zbc ns);rw [zi0 ns,Nat.mul_assoc]
theorem zmn:∀ ns:List Nat,zbc ns.reverse=zeu ns:=fun ns=>by
 have h:∀ l:List Nat,zbc l.reverse=zbc l:=fun l=>by
  induction l with
  | nil=>rfl
  | cons n l ih =>
   rw [List.reverse_cons,zla,ih];exact Nat.mul_comm _ _
 rw [h];unfold zeu;rw [zi0,Nat.one_mul]
end Go.Sei
namespace Go.Proofs.YtnadlhpkpnfmbaaGreatDoor
open Go.Vc Go.RowKit Go.Sei
theorem zrk {b o:Nat} {w:World}:Calls Tryz.prog 90 #[.pointer (some ⟨b,o,none⟩)] w fun e w'=>e = .returned (.func (.func 141) #[] #[At0 w.heap.size])/\w'.heap[w.heap.size]?=some (.cells #[.pointer (some ⟨b,o,none⟩)] 244 (0,0))/\w'.heap.size=w.heap.size+1/\Bw w w':=by
 refine cofE 4 [.pointer (some ⟨b,o,none⟩)] Tryz.func90 ?_;exact⟨rfl,hnew w _,wz _ _,(zba w _)⟩
def NInX (B:Nat) (F:Nat->Prop) (Y:World) (x:exE3):Prop:=OwnS evE 158 B Y x.2.1 x.2.2 x.1.ev/\∀ a,x.2.1=some a->F a.block
theorem zf5 (B:Nat):zlx 37 89 (NInX B):=by
 rintro F G Y Z x ⟨h1,h2⟩ hs hg;refine⟨h1.same fun a ha=>?_,fun a ha=>hg _ (h2 a ha)⟩;obtain⟨_,_,cur,hc⟩:=zau h1 ha;exact hs _ cur _ (h2 a ha) hc (by decide) (by decide)
theorem zjV {B B1 bx c0:Nat} {p0:Option Addr} {l0:List exE3} {xs:List ExD} {w W0:World} {Rd:Nat->Prop} {pm:Value} (ho:OwnS exE 37 B w p0 c0 l0) (hn:∀ x∈l0,OwnS evE 158 B w x.2.1 x.2.2 x.1.ev) (hB:B<=w.heap.size)
  (hI:zrC Tryz.prog 141 [At0 bx] xs W0 Rd (StX B1) GvX) (hW0:W0.heap.size<=w.heap.size) (hRd:∀ k,Rd k->k<W0.heap.size/\w.heap[k]?=W0.heap[k]?) (hRB:∀ k,Rd k->k<B\/k=bx) (fb:w.heap[bx]?=some (.cells #[pm] 244 (0,0))) (hB1:B<=B1) (hlen:l0.length+xs.length<=30000) :
  Calls Tryz.prog 89 #[.slice p0 l0.length c0,.func (.func 141) #[] #[At0 bx]] w fun e w'=>(∃ (new:List exE3) (p:Option Addr) (c:Nat),e = .returned (.slice p (l0++new).length c)/\new.map (·.1)=xs/\OwnS exE 37 B w' p c (l0++new)/\∀ x∈l0++new,OwnS evE 158 B w' x.2.1 x.2.2 x.1.ev)/\Below B w w':=by
 refine cofM 13 [.slice p0 l0.length c0,.func (.func 141) #[] #[At0 bx]] (.c .p .p) Tryz.func89 ?_;obtain⟨L,hL⟩:=nm (w.heap.size);refine⟨Unit,fun _=>⟨[(1,.func (.func 141) #[] #[At0 bx]),(2,At0 L)],[]⟩,fun _ X=>X.heap[L]?=some (.cells [.slice p0 l0.length c0].toArray 89 (0,0))/\X.heap.size=L+1/\Bw w X,?_,?_⟩
 ·exact⟨(),⟨.cons rfl (.cons (by rw [hL];rfl) .nil),rfl⟩,by rw [hL];exact hnew w _,by rw [hL];exact wz _ _,(zba w _)⟩
 rintro _ W ⟨fL,sW,hbW⟩;have hbxw:=hlt fb;obtain⟨F0,hF0⟩:∃ F0:Nat->Prop,F0=fun k=>k=L\/(∃ a,p0=some a/\k=a.block)\/∃ x∈l0,∃ a,x.2.1=some a/\k=a.block:=⟨_,rfl⟩;have hF0B:∀ k,F0 k->B<=k/\k<W.heap.size/\(k≠L->k≠bx):=by
  intro k hk;rw [hF0] at hk;rcases hk with rfl | ⟨a,ha,rfl⟩ | ⟨x,hx,a,ha,rfl⟩
  ·exact⟨by omega,by omega,fun h=>(h rfl).elim⟩
  ·obtain⟨h1,h2,cur,h3⟩:=zau ho ha;exact⟨h1,by omega,fun _ e=>by rw [e,fb] at h3;simp at h3⟩
  ·obtain⟨h1,h2,cur,h3⟩:=zau (hn x hx) ha;exact⟨h1,by omega,fun _ e=>by rw [e,fb] at h3;simp at h3⟩
 have hG0:Gath exE 37 89 B W.heap.size L W (NInX B) l0 F0 W:=by
  refine⟨Jb _,by rw [hF0];exact .inl rfl,fun k hk=>(hF0B k hk).2.1,⟨p0,c0,fL,ho.below hbW,fun a ha=>by rw [hF0];exact .inr (.inl ⟨a,ha,rfl⟩)⟩,fun x hx=>⟨(hn x hx).below hbW,fun a ha=>by rw [hF0];exact .inr (.inr ⟨x,hx,a,ha,rfl⟩)⟩,Ja _ _⟩
 refine zr1 (sgOk _) rfl (lb := #[At0 bx]) rfl rfl hI (fun pre vs W k ⟨x,q,c,h1,h2,h3⟩ ⟨x',a,c',h4,h5⟩=>?_) (by have:=hbW.size;omega) (fun k hk=>⟨(hRd k hk).1,?_⟩) (fun pre vs W ⟨x,q,c,_,h,_⟩=>by rw [h];rfl) (by decide)
  F0 (fun pre F Y=>∃ xs',(∃ new,xs'=l0++new/\new.map (·.1)=pre/\new.length<=xs.length)/\Gath exE 37 89 B W.heap.size L W (NInX B) xs' F Y) (fun k hk=>?_) (Gath.iter (zf5 B) (by omega)) ⟨l0,⟨[],by simp,rfl,Jh _⟩,hG0⟩ ?_ ?_
 ·rw [h2] at h4;have h6:exC x q c=exC x' (some a) c':=by
   have h7:=Value.agg.inj (List.head_eq_of_cons_eq h4);simpa using h7
  have h8:Value.slice q x.ev.length c=Value.slice (some a) x'.ev.length c':=List.head_eq_of_cons_eq h6;have h9:q=some a:=by injection h8
  obtain⟨_,_,cur,hc⟩:=zau h3 h9;rw [h5];exact⟨_,_,_,hc⟩
 ·rw [<- (hRd k hk).2];exact hbW.block k (by have:=(hRd k hk).1;omega)
 ·intro h;obtain⟨h1,h2,h3⟩:=hF0B k h;have h4:=(hRd k hk).1;rcases hRB k hk with h5 | h5
  ·omega
  ·exact h3 (by omega) h5
 ·rintro yl pre x vs F Y hyl hpre ⟨xs',⟨new,rfl,hnew',hnl⟩,hG⟩ ⟨x',q,c,hlast,rfl,oq⟩ hgv hfy ⟨lo,hlo⟩;have hxx:x=x':=by simpa using hlast
  subst hxx;have hYs:=hG.size;refine zak (X:=Y) (v := .agg (exC x q c).toArray) k37 (zay _ _ _) zc9 (zeo _ _ _) fun Z hbZ fZ sZ=>?_;have fZ:ExH Z Y.heap.size x q c:=fZ;obtain⟨F1,hF1⟩:∃ F1:Nat->Prop,F1=fun k=>F k\/GvX [.agg (exC x q c).toArray] k:=⟨_,rfl⟩;rw [<- hF1];have hq1:∀ a,q=some a->F1 a.block:=fun a ha=>by
   rw [hF1];exact .inr ⟨x,a,c,by rw [ha],rfl⟩
  have hgq:∀ k,GvX [.agg (exC x q c).toArray] k->∃ a,q=some a/\k=a.block:=by
   rintro k ⟨x',a,c',h4,h5⟩;have h6:exC x q c=exC x' (some a) c':=by
    have h7:=Value.agg.inj (List.head_eq_of_cons_eq h4);simpa using h7
   have h8:Value.slice q x.ev.length c=Value.slice (some a) x'.ev.length c':=List.head_eq_of_cons_eq h6;have h9:q=some a:=by injection h8
   exact⟨a,h9,h5⟩
  have hlt1:∀ k,F1 k->k<Y.heap.size:=fun k hk=>by
   rw [hF1] at hk;rcases hk with hk | hk
   ·exact hG.lt k hk
   ·obtain⟨a,ha,rfl⟩:=hgq k hk;exact (zau oq ha).2.1
  have hFF:∀ k,F k->F1 k:=fun k hk=>by rw [hF1];exact .inl hk
  have hG1:Gath exE 37 89 B W.heap.size L W (NInX B) (l0++new) F1 Z:=by
   obtain⟨p,c',h1,h2,h3⟩:=hG.row;have sZ:=hbZ.size;exact⟨by omega,hFF _ hG.inL,fun k hk=>by have:=hlt1 k hk;omega,⟨p,c',zab hbZ h1,h2.below hbZ,fun a ha=>hFF _ (h3 a ha)⟩,fun y hy=>⟨(hG.nest y hy).1.below hbZ,fun a ha=>hFF _ ((hG.nest y hy).2 a ha)⟩,hG.old.trans (hbZ.mono (by omega))⟩
  refine⟨rfl,F1,KeepsG.below hbZ fun k hk => .inl hk,⟨_,⟨new,rfl,hnew',hnl⟩,hG1⟩,?_⟩;rintro O Y2 hY2 ⟨xs2,⟨new2,rfl,hnew2,hnl2⟩,hG2⟩;clear hG1 hnew' hnl hG;have hYl:=hlt hlo;have fY:ExH Y2 Y.heap.size x q c:=by rw [hY2];exact (zai (by omega)).trans fZ
  have oq2:OwnS evE 158 B1 Y2 q c x.ev:=by
   rw [hY2];refine (oq.below hbZ).same fun a ha=>zai fun e=>?_;obtain⟨_,_,cur,hc⟩:=zau oq ha;rw [e,hlo] at hc
   cases hc
  obtain⟨p,c',h4,h5,h6⟩:=hG2.row;refine⟨_,zac (zaa h4) (i:=0) rfl,exC x q c,zay _ _ _,zaa fY,hlt fY,?_⟩;obtain⟨nx,hnx⟩:∃ nx:exE3,nx=(x,q,c):=⟨_,rfl⟩;have hen:exC x q c=exE.enc nx:=by rw [hnx];rfl
  have hpl:pre.length<xs.length:=by
   obtain⟨t,ht⟩:=hpre;rw [<- ht];simp only [lap,Jq];omega
  have hn2:new2.length=pre.length:=by rw [<- hnew2,Jc]
  refine⟨⟨by decide,by decide,zc9⟩,exE.enc nx,by rw [<- hen];exact zcS (zay _ _ _) zc9,?_⟩;have hw2:W.heap.size<=Y2.heap.size:=hG2.size;obtain⟨v,Y5,hrun,S,hrun2,F',hG',hK',hFF'⟩:=hG2.stepX (P:=Tryz.prog) (ty:=89) (cap1:=1) (zf5 B) (by decide) Tryz.underlying89 k37 rfl rfl (by show _=333;exact zc9) k89 rfl (by omega) (by omega) (Ja _ _) nx (by rw [lap];omega) (by rw [lap];show (_+1)*2416<=_;omega)
   (fun G Z _ _ h3 h4=>zf5 B F1 G Y2 Z nx ⟨by rw [hnx];exact oq2.lower hB1,fun a ha=>by rw [hnx] at ha;exact hq1 a ha⟩ h3 h4) p c' h4
  unfold opsE zc2;exact SatR.mk hrun (SatR.mk hrun2 ⟨F',⟨_,⟨new2++[nx],by rw [Jr],by rw [Jw,hnew2,hnx];rfl,by rw [lap];show _+1<=_;omega⟩,hG'⟩,hK'⟩)
 ·rintro D F Y hD hfD ⟨xs',⟨new,rfl,hnew',hnl⟩,hG⟩ hdef;obtain⟨p,c',h4,h5,h6⟩:=hG.row;refine⟨_,zac (zaa h4) (i:=0) rfl,_,rfl,hdef,?_⟩;have kp:∀ a:Addr,F a.block->(Y.putObj D (.deferred none)).heap[a.block]?=Y.heap[a.block]?:=fun a h2=>zai fun e=>by rw [<- e] at hfD;exact hfD h2
  exact⟨⟨new,p,c',rfl,hnew',h5.same fun a ha=>kp a (h6 a ha),fun x hx=>(hG.nest x hx).1.same fun a ha=>kp a ((hG.nest x hx).2 a ha)⟩,zbj ((hbW.mono hB).trans hG.old) (by omega) _⟩
structure MixX where
 m:MixD
 q:Option Addr
 c:Nat
 p1:Option Addr
 c1:Nat
 p2:Option Addr
 c2:Nat
 p3:Option Addr
 c3:Nat
 xs:List NatL
 ys:List NatL
def mixC (x:MixX):List Value:=exC x.m.base x.q x.c++[.slice x.p1 x.m.rs.length x.c1,.slice x.p2 x.xs.length x.c2,.slice x.p3 x.ys.length x.c3]
theorem zoI (x:MixX):(mixC x).length=336:=by
 unfold mixC;rw [lap,zay];rfl
theorem zkv (x:MixX):(mixC x).all Value.oneCell'=true:=by
 unfold mixC;rw [List.all_append,zeo];rfl
def mixE:Enc MixX:=⟨mixC,336,zoI,by decide,fun a u hu=>Je.1 (zkv a) u hu⟩
structure NInM (B:Nat) (F:Nat->Prop) (Y:World) (x:MixX):Prop where
 e2:x.xs.map (·.1)=x.m.rs.map (·.2)
 e3:x.ys.map (·.1)=x.m.wr
 ev:RowIn evE 158 B F Y x.q x.c x.m.base.ev
 r1:RowIn natE 3 B F Y x.p1 x.c1 (x.m.rs.map (·.1))
 r2:RowIn zbG 128 B F Y x.p2 x.c2 x.xs
 n2:∀ y∈x.xs,RowIn natE 3 B F Y y.2.1 y.2.2 y.1
 r3:RowIn zbG 128 B F Y x.p3 x.c3 x.ys
 n3:∀ y∈x.ys,RowIn natE 3 B F Y y.2.1 y.2.2 y.1
theorem NInM.same {B:Nat} {F G:Nat->Prop} {Y Z:World} {x:MixX} (h:NInM B F Y x) (k:∀ {α:Type} {E:Enc α} {T c:Nat} {q:Option Addr} {l:List α},T≠172->T≠166->T≠4->RowIn E T B F Y q c l->RowIn E T B G Z q c l):NInM B G Z x :=
 ⟨h.e2,h.e3,k (by decide) (by decide) (by decide) h.ev,k (by decide) (by decide) (by decide) h.r1,k (by decide) (by decide) (by decide) h.r2,fun y hy=>k (by decide) (by decide) (by decide) (h.n2 y hy),k (by decide) (by decide) (by decide) h.r3,fun y hy=>k (by decide) (by decide) (by decide) (h.n3 y hy)⟩
theorem NInM.lower {B B':Nat} {F:Nat->Prop} {Y:World} {x:MixX} (h:NInM B F Y x) (hB:B'<=B):NInM B' (fun k=>B'<=k) Y x:=by
 have k:∀ {α:Type} {E:Enc α} {T c:Nat} {q:Option Addr} {l:List α},RowIn E T B F Y q c l->RowIn E T B' (fun k=>B'<=k) Y q c l:=fun {α E T c q l} hr=>⟨hr.own.lower hB,fun a ha=>(zau (hr.own.lower hB) ha).1⟩;exact⟨h.e2,h.e3,k h.ev,k h.r1,k h.r2,fun y hy=>k (h.n2 y hy),k h.r3,fun y hy=>k (h.n3 y hy)⟩
theorem ziL (B:Nat):zlx 172 166 (NInM B):=by
 rintro F G Y Z x h hs hg;refine h.same fun {α E T c q l} t1 t2 _ hr=>⟨hr.own.same fun a ha=>?_,fun a ha=>hg _ (hr.inF a ha)⟩;obtain⟨_,_,cur,hc⟩:=zau hr.own ha;exact hs _ cur _ (hr.inF a ha) hc t1 t2
abbrev TpR:=List PthR×Option Addr×Nat
def tpE:Enc TpR where
 sz:=1
 enc x:=[.slice x.2.1 x.1.length x.2.2]
 len x:=rfl
 one x v hv:=by
  simp at hv;subst hv;rfl
 pos:=by decide
structure MxS (B:Nat) (Z:World) (L bP:Nat) (ss:List Nat) (ps:Option Addr) (cs:Nat) (ts:List TpR) (pT:Option Addr) (cT:Nat):Prop where
 f0:Z.heap[L]?=some (.cells #[At0 bP] 169 (0,0))
 f1:Z.heap[L+1]?=some (.cells #[.slice none 0 0] 166 (0,0))
 f2:Z.heap[L+2]?=some (.cells #[.bool false] 4 (0,0))
 f3:Z.heap[L+3]?=some (.cells #[.slice pT ts.length cT] 232 (0,0))
 own:OwnS natE 3 B Z ps cs ss
 rk:OwnS tpE 233 B Z pT cT ts
 n1:∀ z∈ts,OwnS pthE 241 B Z z.2.1 z.2.2 z.1
 n2:∀ z∈ts,∀ x∈z.1,PthO B Z x
theorem PthO.same {B:Nat} {Y Z:World} {x:PthR} (h:PthO B Y x) (k:∀ {α:Type} {E:Enc α} {T c:Nat} {q:Option Addr} {l:List α},T=158\/T=326->OwnS E T B Y q c l->OwnS E T B Z q c l):PthO B Z x :=
 ⟨k (.inl rfl) h.1,k (.inr rfl) h.2.1,k (.inr rfl) h.2.2.1,k (.inr rfl) h.2.2.2⟩
theorem MxS.below {B:Nat} {Z Y:World} {L bP:Nat} {ss:List Nat} {ps:Option Addr} {cs:Nat} {ts:List TpR} {pT:Option Addr} {cT:Nat} (h:MxS B Z L bP ss ps cs ts pT cT) (hb:Bw Z Y):MxS B Y L bP ss ps cs ts pT cT :=
 ⟨zab hb h.f0,zab hb h.f1,zab hb h.f2,zab hb h.f3,h.own.below hb,h.rk.below hb,fun z hz=>(h.n1 z hz).below hb,fun z hz x hx=>(h.n2 z hz x hx).same fun {α E T c q l} _ ho=>ho.below hb⟩
theorem MxS.size {B:Nat} {Z Y:World} {L bP n:Nat} {ss:List Nat} {ps ps':Option Addr} {cs cs':Nat} {ts:List TpR} {pT:Option Addr} {cT:Nat} (h:MxS B Z L bP ss ps cs ts pT cT) (ho:OwnS natE 3 B Y ps' cs' (ss++[n])) (g:Z.grownBy Y (ps.map Addr.block)):MxS B Y L bP (ss++[n]) ps' cs' ts pT cT :=
 ⟨zaQ h.f0 h.own (by decide) g,zaQ h.f1 h.own (by decide) g,zaQ h.f2 h.own (by decide) g,zaQ h.f3 h.own (by decide) g,ho,zb3 h.rk h.own (by decide) g,fun z hz=>zb3 (h.n1 z hz) h.own (by decide) g,fun z hz x hx=>(h.n2 z hz x hx).same fun {α E T c q l} ht hoo=>zb3 hoo h.own (by rcases ht with rfl | rfl <;> decide) g⟩
theorem appT {B c:Nat} {V1:World} {p:Option Addr} {l:List TpR} {y:TpR} {a:Addr} (ho:OwnS tpE 233 B V1 p c l) (ha:zav V1 a ([y].flatMap tpE.enc)) (hB:B<=V1.heap.size) (hl:l.length<=100000) {K:Value->World->Prop}
  (h:∀ p' c' w',OwnS tpE 233 B w' p' c' (l++[y])->V1.grownBy w' (p.map Addr.block)->(∀ a,p'=some a->p=some a\/a.block=V1.heap.size)->K (.slice p' (l++[y]).length c') w') :
  SatR ((Builtin.append_ #[232,232] 232 #[.slice p l.length c,.slice (some a) 1 1]).run Tryz.prog V1) K :=
 zbp (E:=tpE) (T:=233) (B:=B) (l:=l) (news:=[y]) (cap:=c) (m:=1) Tryz.underlying232 k233 rfl rfl rfl ho rfl ha hB (by omega) (by show (l.length+1)*24<=_;omega) fun p' c' w' a1 a2 _ a4=>h p' c' w' a1 (by rw [zcD] at a2;exact a2) a4
theorem appP {B c:Nat} {V1:World} {p:Option Addr} {l:List PthR} {y:PthR} {a:Addr} (ho:OwnS pthE 241 B V1 p c l) (ha:zav V1 a ([y].flatMap pthE.enc)) (hB:B<=V1.heap.size) (hl:l.length<=100000) {K:Value->World->Prop}
  (h:∀ p' c' w',OwnS pthE 241 B w' p' c' (l++[y])->V1.grownBy w' (p.map Addr.block)->(∀ a,p'=some a->p=some a\/a.block=V1.heap.size)->K (.slice p' (l++[y]).length c') w') :
  SatR ((Builtin.append_ #[233,233] 233 #[.slice p l.length c,.slice (some a) 1 1]).run Tryz.prog V1) K :=
 zbp (E:=pthE) (T:=241) (B:=B) (l:=l) (news:=[y]) (cap:=c) (m:=1) Tryz.underlying233 k241 rfl rfl rfl ho rfl ha hB (by omega) (by show (l.length+1)*104<=_;omega) fun p' c' w' a1 a2 _ a4=>h p' c' w' a1 (by rw [zcD] at a2;exact a2) a4
structure ThrQ (V:List UInt8) (l:List InsD):Prop where
 l12:l.length<=12
 ex:∀ x∈l,ExOk x
 ok:zbQ l 6=true
 m:(zcJ l (ded V)).length<=4096
abbrev zaE (V:List UInt8) (l:List InsD):List PathD:=(zcJ l (ded V)).map ze0
def wrE (R:RunD) (i:Nat) (v:UInt8):Bool:=(List.range i).any fun j=>decide ((R.ev j).k=2)&&decide ((R.ev j).v=v)
def wrL (rs:List RunD) (v:UInt8):Bool:=rs.any fun R=>wrE R R.many v
theorem zkU (rs:List RunD):zcc rs=zaP.filter (wrL rs):=rfl
def wrC (f:UInt8->Bool):List Value:=seg 256 fun i => .bool (f (UInt8.ofNat i))
theorem zlH (f:UInt8->Bool) {i:Nat} (h:i<256):(wrC f)[i]?=some (.bool (f (UInt8.ofNat i))):=zfd _ h
theorem zpR (f:UInt8->Bool) (x:UInt8):(wrC f).set x.toNat (.bool true)=wrC fun v=>f v||decide (x=v):=by
 have hx:=x.toNat_lt;apply List.ext_getElem?;intro j;by_cases hj:j<256
 ·rw [zlH _ hj];by_cases e:x.toNat=j
  ·subst e;rw [List.getElem?_set_self (by unfold wrC;rw [zaA];exact hx),UInt8.ofNat_toNat,Ka rfl,Bool.or_true]
  ·rw [List.getElem?_set_ne e,zlH _ hj];have:x≠UInt8.ofNat j:=fun h=>e (by rw [h,UInt8.toNat_ofNat'];omega);rw [Kb this,Bool.or_false]
 ·rw [Jo (by unfold wrC;rw [List.length_set,zaA];omega),Jo (by unfold wrC;rw [zaA];omega)]
theorem zlG (f:UInt8->Bool):(wrC f).length=256:=zaA _ _
theorem zn0 (rs:List RunD) (R:RunD) (v:UInt8):wrL (rs++[R]) v=(wrL rs v||wrE R R.many v):=by
 unfold wrL;rw [List.any_append];simp
theorem zn1 (R:RunD) (i:Nat) (v:UInt8):wrE R (i+1) v=(wrE R i v||(decide ((R.ev i).k=2)&&decide ((R.ev i).v=v))):=by
 unfold wrE;rw [Ku,List.any_append];simp
theorem zlo (p:UInt8->Bool) (x:UInt8):[x].filter p=if p x=true then [x] else []:=by
 rw [List.filter_cons,List.filter_nil]
theorem zpc {k:Nat} (h:k<256):∃ hl:k<zaP.length,zaP[k]=UInt8.ofNat k:=by
 have hl:zaP.length=256:=by unfold zaP;rw [Jc,Kf]
 refine⟨by rw [hl];exact h,?_⟩;simp [zaP]
theorem ztwr:List.replicate 256 (Value.bool false)=wrC fun _=>false:=by kernel_rfl
section
variable {l:List InsD} {dom:List UInt8} {q p:Option Addr} {cap cd:Nat} {w:World}
theorem znZ (hl:SlR insE w q l) (hp:SlR zaI w p dom) (h12:l.length<=12) (hx:∀ x∈l,ExOk x) (hR:∀ R∈zcJ l dom,R.many<=24) (hm:(zcJ l dom).length<=4096) (hqb:∀ a,q=some a->a.block<w.heap.size) (hpb:∀ a,p=some a->a.block<w.heap.size) (hdl:dom.length<=1000) :
  Calls Tryz.prog 137 #[.slice q l.length cap,.slice p dom.length cd] w fun e w'=>(∃ (p':Option Addr) (c':Nat),e = .returned (.tuple #[.slice p' (zcc (zcJ l dom)).length c',.bool true])/\OwnS zaI 5 w.heap.size w' p' c' (zcc (zcJ l dom)))/\Bw w w':=by
 refine cofM 55 [.slice q l.length cap,.slice p dom.length cd] (.c .p (.c .p (.c .p (.c .p (.s .p (.c .p .p)))))) Tryz.func137 ?_;obtain⟨L,hL⟩:=nm (w.heap.size);refine⟨Unit,fun _=>⟨[(0,.slice q l.length cap),(1,.slice p dom.length cd),(4,AtR L),(5,AtR (L+1))],[]⟩,fun _ X=>X.heap[L]?=some (.cells #[.slice none 0 0] 72 (0,0))/\X.heap[L+1]?=some (.cells #[.bool false] 4 (0,0))/\X.heap.size=L+2/\Bw w X,?_,?_⟩
 ·have s1:=wz w (.cells #[.slice none 0 0] 72);have h2:=hnew (w.alloc (.cells #[.slice none 0 0] 72)) (.cells #[.bool false] 4);have s2:=wz (w.alloc (.cells #[.slice none 0 0] 72)) (.cells #[.bool false] 4);rw [s1] at h2 s2;refine⟨(),⟨.cons rfl (.cons rfl (.cons (by rw [hL];rfl) (.cons (by rw [hL,<- s1];rfl) .nil))),rfl⟩,?_,?_,?_,?_⟩
  ·rw [hL];exact hold _ (hnew w _)
  ·rw [hL];exact h2
  ·rw [hL];exact s2
  ·exact ((zba w _)).alloc (by simp) _
 rintro _ X ⟨f0,f1,sX,hbX⟩;refine⟨Unit,fun _=>⟨[(0,.slice q l.length cap),(1,.slice p dom.length cd),(4,AtR L),(5,AtR (L+1)),(6,AtR (L+2))],[]⟩,fun _ Y=>Y.heap[L+2]?=some (.cells (wrC fun _=>false).toArray 281 (0,0))/\Y.heap.size=L+3/\Bw X Y,?_,?_⟩
 ·refine⟨(),⟨.cons rfl (.cons rfl (.cons rfl (.cons rfl (.cons (by rw [<- sX];rfl) .nil)))),rfl⟩,?_,?_,?_⟩
  ·rw [<- sX,<- ztwr];exact hnew X _
  ·have:=wz X (.cells (List.replicate 256 (Value.bool false)).toArray 281);rw [sX] at this;exact this
  ·exact (zba X _)
 rintro _ Y ⟨f2,sY,hbY⟩;refine⟨Unit,fun _=>⟨[(0,.slice q l.length cap),(1,.slice p dom.length cd),(4,AtR L),(5,AtR (L+1)),(6,AtR (L+2)),(7,AtR (L+3))],[]⟩,fun _ Z=>Z.heap[L+3]?=some (.cells [i64 (0:Nat)].toArray 3 (0,0))/\Z.heap.size=L+4/\Bw Y Z,?_,?_⟩
 ·refine zak (X:=Y) (v:=i64 0) k3 rfl rfl rfl fun Z hbZ fZ sZ=>?_;rw [sY] at fZ sZ;exact⟨(),⟨.cons rfl (.cons rfl (.cons rfl (.cons rfl (.cons rfl (.cons (by rw [<- sY];rfl) .nil))))),rfl⟩,fZ,sZ,hbZ⟩
 rintro _ V ⟨f3,sV,hbV⟩;have hXV:Bw X V:=zst hbY hbV;have hwV:=zst hbX hXV;have f0:=zab hXV f0;have f1:=zab hXV f1;have f2:=zab hbV f2;clear hbX hbY hbV hXV;obtain⟨xs,hxs⟩:=nm (zcJ l dom);rw [<- hxs] at hR hm ⊢;refine⟨Nat,fun D1=>⟨[(4,AtR L),(5,AtR (L+1)),(6,AtR (L+2))],[{ target := .collected D1,args := #[] }]⟩,fun D1 U=>U.heap[L+2]?=some (.cells (wrC (wrL xs)).toArray 281 (0,0))/\U.heap[D1]?=some (.deferred (some []))/\L+2<D1/\Below (L+2) V U,?_,?_⟩
 ·refine cmo zjL ?_;rintro e W ⟨rfl,fi,fd,sW,hbW⟩;have hwW:=zst hwV hbW;have hI:=zne (q:=q) (p:=p) (hl.below hwW) (hp.below hwW) fi fd (fun a ha=>by have:=hqb a ha;have:=hwW.size;omega) (fun a ha=>by have:=hpb a ha;have:=hwW.size;omega) h12 hx hdl;rw [<- hxs] at hI;obtain⟨J,hJ⟩:∃ J:List RunD->World->Prop,J=fun pre Y=>W.heap.size<=Y.heap.size/\Y.heap[L+2]?=some (.cells (wrC (wrL pre)).toArray 281 (0,0))/\Y.heap[L+3]?=some (.cells [i64 pre.length].toArray 3 (0,0))/\Below (L+2) W Y:=⟨_,rfl⟩;obtain⟨F0,hF0⟩:∃ F0:Nat->Prop,F0=fun k=>k=L+2\/k=L+3:=⟨_,rfl⟩;refine zfe (sgOk _) rfl (lb := #[AtR V.heap.size,AtR (V.heap.size+1)]) rfl rfl hI (Jb _) (fun k hk=>⟨?_,rfl⟩) (fun pre vs W ⟨R,b,_,h,_⟩=>by rw [h];rfl) (by decide)
   F0 (fun pre F Y=>F=F0/\J pre Y) (fun _ _ _ _=>False) (fun k hk=>?_)
   (joG (F:=F0) (J:=J) (fun k h=>by rw [hF0] at h;omega) (fun s A h=>by rw [hJ] at h;exact h.1) (fun pre A B h hb=>by
    rw [hJ] at h ⊢;obtain⟨h1,h2,h3,h4⟩:=h;exact⟨Jj h1 hb.size,zb6 hb (by omega) h2,zb6 hb (by omega) h3,h4.trans (hb.mono (by omega))⟩))
   (fun ex=>⟨fun _ _ _ _ h=>h.elim,fun _ _ _ _ h=>h.elim⟩) ⟨rfl,by rw [hJ];exact⟨Jb _,zab hbW f2,zab hbW f3,Ja _ _⟩⟩ ?_ ?_ ?_
  ·rcases hk with ((rfl | rfl) | ⟨a,ha,rfl⟩ | ⟨a,ha,rfl⟩) | h
   ·omega
   ·omega
   ·have:=hqb a ha;have:=hwW.size;omega
   ·have:=hpb a ha;have:=hwW.size;omega
   ·exact h.elim
  ·rw [hF0];rcases hk with (rfl | rfl) | ⟨a,ha,rfl⟩ | ⟨a,ha,rfl⟩
   ·omega
   ·omega
   ·have:=hqb a ha;omega
   ·have:=hpb a ha;omega
  ·rintro yl pre x vs F Y hyl hpre hJ0 ⟨R,b,hlast,rfl,fR⟩ hfy ⟨lo,hlo⟩;have hxR:x=R:=by simpa using hlast
   subst hxR;refine⟨rfl,F,KeepsG.refl _ _,hJ0,?_⟩;rintro o Y2 hY2 ⟨rfl,hJ2⟩;rw [hJ] at hJ2;obtain⟨h1,h2,h3,h4⟩:=hJ2;have hbl:b≠yl:=fun e=>by
    rw [e] at fR;rw [fR] at hlo
    cases hlo
   have fR2:RunH Y2 b x:=by rw [hY2];exact (zai hbl).trans fR
   have r1:=hR x (hpre.subset (by simp));have hpl:pre.length<xs.length:=by
    obtain⟨t,ht⟩:=hpre;rw [<- ht];simp only [lap,Jq];omega
   refine⟨_,zac (zaa h3) (i:=0) rfl,?_⟩;refine brN (Kb (by omega)) ?_;refine⟨_,zac (zaa h3) (i:=0) rfl,?_⟩;refine⟨((pre.length+1:Nat):Int),(zaj (by omega)).trans (by omega),?_⟩;refine zaq k3 h3 (o:=0) (v:=i64 (pre.length+1:Nat)) rfl rfl (by show 0<1;decide) rfl fun Z fZ gZ sZ=>?_;have fRZ:RunH Z b x:=(gZ.block b (hlt fR2) (fun e=>by
    have e:b=L+3:=(by simpa using e);rw [e] at fR2;rw [fR2] at h3;simp at h3)).trans fR2
   have f2Z:=(gZ.block (L+2) (hlt h2) (by simp)).trans h2;have kZ:KeepsG F F Y2 Z:=KeepsG.grown gZ (by rw [hF0];exact .inr rfl);have bZ:Below (L+2) W Z:=h4.trans (zan gZ (by omega) (by omega));refine DrawE.ord [] [0,1,2,3,4,5,6,7,8,9] (by kernel_rfl) ?_;have hdZ:Bw Z Z.drew:=(Ja _ _).drew;refine⟨_,zac (zaa (hdr fRZ)) (i:=18) (zdi x),?_⟩;refine⟨x.many,rfl,r1,?_⟩;have ecut:zbo (some ⟨b,0+19,none⟩) 24 0 7=some ⟨b,19,none⟩:=by rw [zdQ,JL]
   refine⟨Nat,fun i=>⟨[(6,AtR (L+2)),(7,AtR (L+3)),(29,.slice (some ⟨b,19,none⟩) (x.many-0) (24-0)),(30,i64 (x.many:Nat)),(31,i64 (i:Nat))],[]⟩,
    fun i T=>i<=x.many/\T.heap[L+2]?=some (.cells (wrC fun v=>wrL pre v||wrE x i v).toArray 281 (0,0))/\RunH T b x/\T.heap[L+3]?=some (.cells [i64 (pre.length+1:Nat)].toArray 3 (0,0))/\KeepsG F F Y2 T/\Below (L+2) W T,fun i=>x.many-i,0,
    ⟨.cons rfl (.cons rfl (.cons (by rw [<- ecut];rfl) (.cons rfl (.cons rfl .nil)))),rfl⟩,⟨Jh _,?_,hdr fRZ,hdr fZ,kZ.trans (KeepsG.below hdZ fun k h => .inl h),bZ.drew⟩,?_⟩
   ·have e:(fun v=>wrL pre v||wrE x 0 v)=wrL pre:=by
     funext v;show (wrL pre v||false)=_;rw [Bool.or_false]
    rw [e];exact f2Z
   rintro i T ⟨hi,t2,tR,t3,kT,bT⟩;have hTs:=kT.size;refine biE (fun hc=>?_) fun hc=>?_
   ·have hc:(i:Int)<(x.many:Int):=dT hc;have him:i<x.many:=(by omega);refine⟨i,rfl,him,?_⟩;have hev:zav T ⟨b,19+i*7,none⟩ (evE.enc (x.ev i)):=by
     have:=zaD (n:=i*7) (m:=7) (zl9 tR);rw [zpK x.ev (show i<24 by omega)] at this;exact this
    refine⟨evE.enc (x.ev i),rfl,hev,hlt tR,?_⟩;refine zak (X:=T) (v := .agg (evE.enc (x.ev i)).toArray) k158 rfl rfl rfl fun T2 hb2 fT2 sT2=>?_;have k2:KeepsG F F Y2 T2:=kT.trans (KeepsG.below hb2 fun k h => .inl h);have b2:Below (L+2) W T2:=bT.trans (hb2.mono (by omega));have n1:=zn1 x i;refine⟨_,zac (zaa fT2) (i:=1) rfl,?_⟩;have u2:=zab hb2 t2;have uR:=zab hb2 tR;have u3:=zab hb2 t3;refine biE (fun hk=>?_) fun hk=>?_
    ·have hk:(x.ev i).k=2:=zbJ.1 (dT hk);refine⟨_,zac (zaa fT2) (i:=3) rfl,?_⟩;refine⟨((x.ev i).v).toNat,rfl,((x.ev i).v).toNat_lt,?_⟩;refine zaq k4 u2 (o:=0+((x.ev i).v).toNat*1) (v := .bool true) rfl rfl (by rw [zlG];have:=((x.ev i).v).toNat_lt;omega) rfl fun T3 fT3 gT3 sT3=>?_;rw [JL,Jp,zpR] at fT3;have k3:KeepsG F F Y2 T3:=k2.trans (KeepsG.grown gT3 (by rw [hF0];exact .inl rfl));have hT2s:=k2.size;refine nxI (by omega) ?_;refine⟨i+1,(cvE rfl rfl),⟨him,?_,(gT3.block b (hlt uR) (fun e=>by
      have e:b=L+2:=(by simpa using e);rw [e] at uR;rw [uR] at u2;simp at u2)).trans uR,(gT3.block (L+3) (hlt u3) (by simp)).trans u3,k3,b2.trans (zan gT3 (by omega) (Jb _))⟩,zdc (by omega)⟩
     have e:(fun v=>wrL pre v||wrE x (i+1) v)=fun v=>(wrL pre v||wrE x i v)||decide ((x.ev i).v=v):=by
      funext v;rw [n1,Ka hk,Js,Bool.or_assoc]
     rw [e];exact fT3
    ·have hk:¬ (x.ev i).k=2:=fun e=>(dF hk) (by rw [e];rfl);refine nxI (by omega) ?_;refine⟨i+1,(cvE rfl rfl),⟨him,?_,uR,u3,k2,b2⟩,zdc (by omega)⟩;have e:(fun v=>wrL pre v||wrE x (i+1) v)=fun v=>(wrL pre v||wrE x i v):=by
      funext v;rw [n1,Kb hk,JJ,Bool.or_false]
     rw [e];exact u2
   ·have hc:¬ (i:Int)<(x.many:Int):=dF hc;obtain rfl:i=x.many:=(by omega);refine⟨F,⟨rfl,?_⟩,kT⟩;rw [hJ];refine⟨by omega,?_,by rw [lap];exact t3,bT⟩;have e:wrL (pre++[x])=fun v=>wrL pre v||wrE x x.many v:=by
     funext v;exact zn0 pre x v
    rw [e];exact t2
  ·rintro D1 F Y hD hfD ⟨rfl,hj⟩ hdef;rw [hJ] at hj;obtain⟨h1,h2,h3,h4⟩:=hj;exact⟨D1,(cvE rfl rfl),h2,hdef,by omega,(hbW.mono (by omega)).trans h4⟩
  ·rintro D ex pre F Y hD hfD hpre h;exact h.elim
 clear f2 f3;rintro D1 U ⟨f2,fD1,hLD,bU⟩;have f0:U.heap[L]?=some (.cells #[.slice none 0 0] 72 (0,0)):=(bU.block L (by omega)).trans f0;have f1:U.heap[L+1]?=some (.cells #[.bool false] 4 (0,0)):=(bU.block (L+1) (by omega)).trans f1;have hwU:Bw w U:=hwV.trans (bU.mono (by omega));have sU:=hlt f2;have sD:=hlt fD1;clear bU hwV;refine⟨List UInt8×Option Addr×Nat,fun s=>⟨[(4,AtR L),(5,AtR (L+1)),(11,.slice s.2.1 s.1.length s.2.2)],[{ target := .collected D1,args := #[] }]⟩,fun s Z=>s.1=zcc xs/\OwnS zaI 5 U.heap.size Z s.2.1 s.2.2 s.1/\Bw U Z,?_,?_⟩
 ·refine⟨wrC (wrL xs),zlG _,zaa f2,hlt f2,?_⟩;refine⟨Nat×Option Addr×Nat,fun s=>⟨[(4,AtR L),(5,AtR (L+1)),(11,.slice s.2.1 ((zaP.take s.1).filter (wrL xs)).length s.2.2),(42,.agg (wrC (wrL xs)).toArray),(43,i64 (s.1:Nat))],[{ target := .collected D1,args := #[] }]⟩,
   fun s Z=>s.1<=256/\OwnS zaI 5 U.heap.size Z s.2.1 s.2.2 ((zaP.take s.1).filter (wrL xs))/\Bw U Z,fun s=>256-s.1,(0,none,0),
   (cvE rfl rfl),⟨Jh _,OwnS.nil,Ja _ _⟩,?_⟩
  rintro⟨k,r,c⟩ Z ⟨hk,ho,hbZ⟩;dsimp only at hk ho ⊢;have hZs:=hbZ.size;refine biE (fun hc=>?_) fun hc=>?_
  ·have hc:(k:Int)<256:=dT hc;have hk2:k<256:=by omega
   have tk:zaP.take (k+1)=zaP.take k++[UInt8.ofNat k]:=by
    obtain⟨hlb,hbk⟩:=zpc hk2;rw [tsg hlb,hbk]
   have fl:(zaP.take (k+1)).filter (wrL xs)=(zaP.take k).filter (wrL xs)++(if wrL xs (UInt8.ofNat k)=true then [UInt8.ofNat k] else []):=by
    rw [tk,List.filter_append,zlo]
   have hfl:((zaP.take k).filter (wrL xs)).length<=256:=by
    have h1:=List.length_filter_le (wrL xs) (zaP.take k);rw [JD] at h1;omega
   refine⟨k,rfl,hk2,?_⟩;refine zcO (by rw [Jp];exact zlH _ hk2) ?_;refine biE (fun hv=>?_) fun hv=>?_
   ·rw [Kc hv] at fl;refine⟨_,w8N k,?_⟩;refine⟨⟨by decide,by decide,rfl⟩,zaI.enc (UInt8.ofNat k),rfl,?_⟩;have hba:Bw Z (Z.alloc (.cells (zaI.enc (UInt8.ofNat k)).toArray 5)):=zba _ _;refine zbp (E:=zaI) (T:=5) (B:=U.heap.size) (l:=(zaP.take k).filter (wrL xs)) (news:=[UInt8.ofNat k]) (cap:=c) (m:=1) Tryz.underlying72 k5 rfl rfl rfl (ho.below hba) rfl (za2 zaI (UInt8.ofNat k)) (by have:=hba.size;omega) (by omega) (by show (((zaP.take k).filter (wrL xs)).length+1)*1<=_;omega) ?_;intro p2 c2 T oT gT hbT hat;refine nxI (by omega) ?_;refine⟨(k+1,p2,c2),⟨.cons rfl (.cons rfl (.cons (by rw [fl];rfl) (.cons rfl (.cons rfl .nil)))),rfl⟩,⟨hk2,by show OwnS zaI _ _ _ _ _ ((zaP.take (k+1)).filter (wrL xs));rw [fl];exact oT,(hbZ.trans (hba.mono hZs)).trans hbT⟩,zdc (by omega)⟩
   ·have hv:wrL xs (UInt8.ofNat k)=false:=hv;rw [hv,JZ JU,Jk] at fl;refine nxI (by omega) ?_;exact⟨(k+1,r,c),⟨.cons rfl (.cons rfl (.cons (by rw [fl];rfl) (.cons rfl (.cons rfl .nil)))),rfl⟩,⟨hk2,by show OwnS zaI _ _ _ _ _ ((zaP.take (k+1)).filter (wrL xs));rw [fl];exact ho,hbZ⟩,zdc (by omega)⟩
  ·have hc:¬ (k:Int)<256:=dF hc;obtain rfl:k=256:=by omega
   have e:(zaP.take 256).filter (wrL xs)=zcc xs:=by
    rw [zkU,Jy (by unfold zaP;rw [Jc,Kf];exact Jb _)]
   rw [e] at ho;exact⟨(zcc xs,r,c),⟨.cons rfl (.cons rfl (.cons (by rw [e];rfl) .nil)),rfl⟩,rfl,ho,hbZ⟩
 rintro⟨ys,r,c⟩ Z ⟨rfl,ho,hbZ⟩;dsimp only at ho ⊢;have hZs:=hbZ.size;have g0:=zab hbZ f0;have g1:=zab hbZ f1;have gD:=zab hbZ fD1;refine zaq k72 g0 (o:=0) (v := .slice r (zcc xs).length c) rfl rfl (by show 0<1;decide) rfl fun Z1 fZ1 gZ1 sZ1=>?_;have g1':=(gZ1.block (L+1) (hlt g1) (by simp)).trans g1;refine zaq k4 g1' (o:=0) (v := .bool true) rfl rfl (by show 0<1;decide) rfl fun Z2 fZ2 gZ2 sZ2=>?_;have k2:∀ k,k<Z.heap.size->k≠L->k≠L+1->Z2.heap[k]?=Z.heap[k]?:=fun k hk n1 n2=>(gZ2.block k (by rw [sZ1];exact hk) (by simpa using n2)).trans (gZ1.block k hk (by simpa using n1));have fZ1':=(gZ2.block L (hlt fZ1) (by simp)).trans fZ1;refine⟨_,rfl,(k2 D1 (hlt gD) (by omega) (by omega)).trans gD,?_⟩;refine⟨.slice r (zcc xs).length c,?_,.bool true,?_,⟨r,c,rfl,?_⟩,?_⟩
 ·exact zac (zaa ((zai (by omega)).trans fZ1')) (i:=0) rfl
 ·exact zac (zaa ((zai (by omega)).trans fZ2)) (i:=0) rfl
 ·refine OwnS.lower (ho.same fun a ha=>?_) hwU.size;have h:=zcP ho ha;exact (zai (by omega)).trans (k2 _ h.2.1 (by omega) (by omega))
 ·have hwZ:=zst hwU hbZ;exact zbj ((hwZ.trans (zan gZ1 hwZ.size (by omega))).trans (zan gZ2 (by rw [sZ1];exact hwZ.size) (by omega))) (by omega) _
end
theorem ze1 {a b:Nat}:decide ((a:Int)<(b:Int))=decide (a<b):=by rw [Kd];omega
def zb8 (c:Cnd):Bool:=decide (c.thread=0)&&(decide (c.n=0)&&decide (c.val=0))
theorem zci {threads locs d:Nat} (c:Cnd):zcK threads locs (d+1) c=(if c.kind=0 then zb8 c&&decide (c.kids.length=0) else
  if c.kind=1 then decide (c.thread.toNat<threads)&&(decide (c.n.toNat<8)&&decide (c.kids.length=0)) else
  if c.kind=2 then decide (c.n.toNat<locs)&&(decide (c.thread=0)&&decide (c.kids.length=0)) else
  if c.kind=3\/c.kind=4 then zb8 c&&(decide (2<=c.kids.length)&&c.kids.all (zcK threads locs d)) else
  if c.kind=5 then zb8 c&&(decide (c.kids.length=1)&&c.kids.all (zcK threads locs d)) else false):=by
 obtain⟨k,t,n,v,kids⟩:=c;rfl
def zs1 (c:Cnd):Prop:=(c.kind=3\/c.kind=4)/\zb8 c=true/\2<=c.kids.length\/c.kind=5/\zb8 c=true/\c.kids.length=1
theorem zlq {threads locs d:Nat} {c:Cnd} (h:zs1 c):zcK threads locs (d+1) c=c.kids.all (zcK threads locs d):=by
 rw [zci];rcases h with ⟨h1,h2,h3⟩ | ⟨h1,h2,h3⟩
 ·rw [JZ (by rcases h1 with h | h <;> rw [h] <;> decide),JZ (by rcases h1 with h | h <;> rw [h] <;> decide),JZ (by rcases h1 with h | h <;> rw [h] <;> decide),Kc h1,h2,Ka h3];rfl
 ·rw [JZ (by rw [h1];decide),JZ (by rw [h1];decide),JZ (by rw [h1];decide),JZ (by rw [h1];decide),Kc h1,h2,Ka h3];rfl
theorem zjR {B threads locs:Nat} {w:World} (hB:B<=w.heap.size):∀ (d:Nat) (c:Cnd) (b o:Nat) (p:Option Addr) (cap:Nat),d<=1000->b<B->zav w ⟨b,o,none⟩ (zcU c p cap)->KidsV B w p c.kids ->
  Calls Tryz.prog 225 #[.pointer (some ⟨b,o,none⟩),i64 threads,i64 locs,i64 d] w fun e w'=>e = .returned (.bool (zcK threads locs d c))/\w=w':=by
 intro d
 induction d with
 | zero =>
  intro c b o p cap _ hb hc hk;refine cofE 141 [.pointer (some ⟨b,o,none⟩),i64 threads,i64 locs,i64 0] Tryz.func225 ?_;exact brT ⟨rfl,rfl⟩
 | succ d ih =>
  intro c b o p cap hd hb hc hk;refine cofM 141 [.pointer (some ⟨b,o,none⟩),i64 threads,i64 locs,i64 (d+1:Nat)] (.s .p (.s .p (.c .p (.c .p .p)))) Tryz.func225 ?_;have hbl:b<w.heap.size:=nL hb hB;refine biE (fun h=>?_) fun h=>?_
  ·have h:((d+1:Nat):Int)=0:=dT h;omega
  clear h;refine⟨Unit,fun _=>⟨[(0,.pointer (some ⟨b,o,none⟩)),(1,i64 threads),(2,i64 locs),(3,i64 (d+1:Nat)),(9,.bool (zb8 c))],[]⟩,fun _ X=>w=X,?_,?_⟩
  ·have fin:∀ {v:Bool},v=zb8 c->some (Value.bool v)=some (.bool (zb8 c)):=fun h=>by rw [h]
   refine⟨_,zac hc (i:=1) rfl,biE (fun h1=>?_) fun h1=>?_⟩
   ·have h1:decide (c.thread=0)=true:=(u8d c.thread 0).symm.trans h1;refine⟨_,zac hc (i:=2) rfl,biE (fun h2=>?_) fun h2=>?_⟩
    ·have h2:decide (c.n=0)=true:=(u8d c.n 0).symm.trans h2;exact⟨_,zac hc (i:=3) rfl,(),⟨.cons rfl (.cons rfl (.cons rfl (.cons rfl (.cons (fin (by unfold zb8;rw [h1,h2];exact u8d c.val 0)) .nil)))),rfl⟩,rfl⟩
    ·have h2:decide (c.n=0)=false:=(u8d c.n 0).symm.trans h2;exact⟨(),⟨.cons rfl (.cons rfl (.cons rfl (.cons rfl (.cons (fin (by unfold zb8;rw [h1,h2];rfl)) .nil)))),rfl⟩,rfl⟩
   ·have h1:decide (c.thread=0)=false:=(u8d c.thread 0).symm.trans h1;exact brF ⟨(),⟨.cons rfl (.cons rfl (.cons rfl (.cons rfl (.cons (fin (by unfold zb8;rw [h1];rfl)) .nil)))),rfl⟩,rfl⟩
  rintro _ _ rfl;refine⟨Unit,fun _=>⟨[(0,.pointer (some ⟨b,o,none⟩)),(1,i64 threads),(2,i64 locs),(3,i64 (d+1:Nat))],[]⟩,fun _ X=>zs1 c/\w=X,?_,?_⟩
  ·have hkn:c.kids.length<=140737488351232:=by have:=hk.inv.1;omega
   refine⟨_,zac hc (i:=0) rfl,biE (fun h0=>?_) fun h0=>?_⟩
   ·have h0:c.kind=0:=dT ((u8d c.kind 0).symm.trans h0);have e:zcK threads locs (d+1) c=(zb8 c&&decide (c.kids.length=0)):=(by rw [zci,Kc h0]);rw [e];refine biE (fun h=>?_) fun h=>?_
    ·have h:zb8 c=true:=h;exact⟨_,zac hc (i:=4) rfl,rb (by rw [h,Js];exact zdL),rfl⟩
    ·have h:zb8 c=false:=h;exact⟨rb (by rw [h];rfl),rfl⟩
   have h0:¬ c.kind=0:=dF ((u8d c.kind 0).symm.trans h0);refine biE (fun h1=>?_) fun h1=>?_
   ·have h1:c.kind=1:=dT ((u8d c.kind 1).symm.trans h1);have e:zcK threads locs (d+1) c=(decide (c.thread.toNat<threads)&&(decide (c.n.toNat<8)&&decide (c.kids.length=0))):=(by rw [zci,JZ h0,Kc h1]);rw [e];refine⟨_,zac hc (i:=1) rfl,_,zaU _,biE (fun h=>?_) fun h=>?_⟩
    ·have h:decide (c.thread.toNat<threads)=true:=ze1.symm.trans h;refine⟨_,zac hc (i:=2) rfl,biE (fun h2=>?_) fun h2=>?_⟩
     ·have h2:decide (c.n.toNat<8)=true:=(ze1 (b:=8)).symm.trans h2;exact⟨_,zac hc (i:=4) rfl,rb (by rw [h,h2];exact zdL),rfl⟩
     ·have h2:decide (c.n.toNat<8)=false:=(ze1 (b:=8)).symm.trans h2;exact⟨rb (by rw [h,h2];rfl),rfl⟩
    ·have h:decide (c.thread.toNat<threads)=false:=ze1.symm.trans h;exact brF ⟨rb (by rw [h];rfl),rfl⟩
   have h1:¬ c.kind=1:=dF ((u8d c.kind 1).symm.trans h1);refine biE (fun h2=>?_) fun h2=>?_
   ·have h2:c.kind=2:=dT ((u8d c.kind 2).symm.trans h2);have e:zcK threads locs (d+1) c=(decide (c.n.toNat<locs)&&(decide (c.thread=0)&&decide (c.kids.length=0))):=(by rw [zci,JZ h0,JZ h1,Kc h2]);rw [e];refine⟨_,zac hc (i:=2) rfl,_,zaU _,biE (fun h=>?_) fun h=>?_⟩
    ·have h:decide (c.n.toNat<locs)=true:=ze1.symm.trans h;refine⟨_,zac hc (i:=1) rfl,biE (fun h3=>?_) fun h3=>?_⟩
     ·have h3:decide (c.thread=0)=true:=(u8d c.thread 0).symm.trans h3;exact⟨_,zac hc (i:=4) rfl,rb (by rw [h,h3];exact zdL),rfl⟩
     ·have h3:decide (c.thread=0)=false:=(u8d c.thread 0).symm.trans h3;exact⟨rb (by rw [h,h3];rfl),rfl⟩
    ·have h:decide (c.n.toNat<locs)=false:=ze1.symm.trans h;exact brF ⟨rb (by rw [h];rfl),rfl⟩
   have h2:¬ c.kind=2:=dF ((u8d c.kind 2).symm.trans h2);have g34:∀ (hk34:c.kind=3\/c.kind=4),zcK threads locs (d+1) c=(zb8 c&&(decide (2<=c.kids.length)&&c.kids.all (zcK threads locs d))):=fun hk34=>by
    rw [zci,JZ h0,JZ h1,JZ h2,Kc hk34]
   refine biE (fun h3=>?_) fun h3=>?_
   ·have h3':decide ((c.kind.toNat:Int)=3)=true:=h3;have h3:c.kind=3\/c.kind=4 := .inl (dT ((u8d c.kind 3).symm.trans h3));refine brE h3' (biE (fun h=>?_) fun h=>?_)
    ·have h:(!zb8 c)=true:=h;have h:zb8 c=false:=(by simpa using h);exact brT ⟨rb (by rw [g34 h3,h];rfl),rfl⟩
    ·have h:(!zb8 c)=false:=h;have h:zb8 c=true:=(by simpa using h);refine⟨_,zac hc (i:=4) rfl,biE (fun h4=>?_) fun h4=>?_⟩
     ·have h4:(c.kids.length:Int)<2:=dT h4;exact⟨rb (by rw [g34 h3,Kb (by omega)];simp),rfl⟩
     ·have h4:¬ (c.kids.length:Int)<2:=dF h4;exact⟨(),(cvE rfl rfl),.inl ⟨h3,h,by omega⟩,rfl⟩
   have h3:¬ c.kind=3:=dF ((u8d c.kind 3).symm.trans h3);refine biE (fun h4=>?_) fun h4=>?_
   ·have h3:c.kind=3\/c.kind=4 := .inr (dT ((u8d c.kind 4).symm.trans h4));refine biE (fun h=>?_) fun h=>?_
    ·have h:(!zb8 c)=true:=h;have h:zb8 c=false:=(by simpa using h);exact brT ⟨rb (by rw [g34 h3,h];rfl),rfl⟩
    ·have h:(!zb8 c)=false:=h;have h:zb8 c=true:=(by simpa using h);refine⟨_,zac hc (i:=4) rfl,biE (fun h4=>?_) fun h4=>?_⟩
     ·have h4:(c.kids.length:Int)<2:=dT h4;exact⟨rb (by rw [g34 h3,Kb (by omega)];simp),rfl⟩
     ·have h4:¬ (c.kids.length:Int)<2:=dF h4;exact⟨(),(cvE rfl rfl),.inl ⟨h3,h,by omega⟩,rfl⟩
   have h4:¬ c.kind=4:=dF ((u8d c.kind 4).symm.trans h4);have h34:¬ (c.kind=3\/c.kind=4):=fun h=>h.elim h3 h4;refine biE (fun h5=>?_) fun h5=>?_
   ·have h5:c.kind=5:=dT ((u8d c.kind 5).symm.trans h5);have e:zcK threads locs (d+1) c=(zb8 c&&(decide (c.kids.length=1)&&c.kids.all (zcK threads locs d))):=(by rw [zci,JZ h0,JZ h1,JZ h2,JZ h34,Kc h5]);refine biE (fun h=>?_) fun h=>?_
    ·have h:(!zb8 c)=true:=h;have h:zb8 c=false:=(by simpa using h);exact brT ⟨rb (by rw [e,h];rfl),rfl⟩
    ·have h:(!zb8 c)=false:=h;have h:zb8 c=true:=(by simpa using h);refine⟨_,zac hc (i:=4) rfl,biE (fun h4=>?_) fun h4=>?_⟩
     ·have h4:(!decide ((c.kids.length:Int)=1))=true:=h4;have h4:¬ (c.kids.length:Int)=1:=(by simpa using h4);exact⟨rb (by rw [e,Kb (by omega)];simp),rfl⟩
     ·have h4:(!decide ((c.kids.length:Int)=1))=false:=h4;have h4:(c.kids.length:Int)=1:=(by simpa using h4);exact⟨(),(cvE rfl rfl),.inr ⟨h5,h,by omega⟩,rfl⟩
   have h5:¬ c.kind=5:=dF ((u8d c.kind 5).symm.trans h5);exact⟨rb (by rw [zci,JZ h0,JZ h1,JZ h2,JZ h34,JZ h5]),rfl⟩
  rintro _ _ ⟨ha,rfl⟩;rw [zlq ha];refine⟨_,zac hc (i:=4) rfl,?_⟩;obtain⟨hn,b1,o1,hp,hks⟩:=hk.inv;refine⟨Nat,fun k=>⟨[(0,.pointer (some ⟨b,o,none⟩)),(1,i64 threads),(2,i64 locs),(3,i64 (d+1:Nat)),(124,i64 c.kids.length),(125,i64 (k:Nat))],[]⟩,fun k X=>k<=c.kids.length/\(∀ x∈c.kids.take k,zcK threads locs d x=true)/\w=X,fun k=>c.kids.length-k,0,
   (cvE rfl rfl),⟨Jh _,by simp,rfl⟩,?_⟩
  rintro k _ ⟨hk,hall,rfl⟩;dsimp only at hk hall ⊢;refine biE (fun hc2=>?_) fun hc2=>?_
  ·have hc2:(k:Int)<(c.kids.length:Int):=dT hc2;have hkl:k<c.kids.length:=by omega
   rcases hp with hp | rfl
   ·omega
   obtain⟨q,cq,hb1,hq,hkq⟩:=hks k hkl;refine⟨_,zac hc (i:=4) rfl,k,rfl,hkl,(d:Int),(zaj (by omega)).trans (by omega),cmo (ih c.kids[k] b1 (o1+k*5) q cq (by omega) hb1 hq hkq) ?_⟩;rintro e _ ⟨rfl,rfl⟩;refine biE (fun h=>?_) fun h=>?_
   ·have h:(!zcK threads locs d c.kids[k])=true:=h;refine⟨rb ?_,rfl⟩;symm;rw [List.all_eq_false];exact⟨c.kids[k],gM _,by simpa using h⟩
   ·have h:(!zcK threads locs d c.kids[k])=false:=h;refine⟨_,(zaj (by omega)).trans rfl,k+1,(cvE rfl rfl),⟨hkl,?_,rfl⟩,zdc (by omega)⟩;rw [tsg hkl];intro x hx;rcases JM.1 hx with hx | hx
    ·exact hall x hx
    ·simp only [Jl] at hx;rw [hx];simpa using h
  ·have hc2:¬ (k:Int)<(c.kids.length:Int):=dF hc2;obtain rfl:k=c.kids.length:=by omega
   rw [JF] at hall;exact⟨rb (Je.2 hall).symm,rfl⟩
theorem ztg {B threads locs cap:Nat} {p:Option Addr} {c:Cnd} {w:World} (hB:B<=w.heap.size) (hk:KidsV B w p c.kids) :
  CB 192 #[.agg (zcU c p cap).toArray,i64 threads,i64 locs] w (.bool (zcK threads locs 20 c)):=by
 refine cofE 10 [.agg (zcU c p cap).toArray,i64 threads,i64 locs] Tryz.func192 ?_;have hb:Bw w (w.alloc (.cells (zcU c p cap).toArray 101)):=zba w _;have hn:=hnew w (.cells (zcU c p cap).toArray 101);refine cmo (zjR (B:=w.heap.size+1) (by rw [wz];omega) 20 c w.heap.size 0 p cap (by omega) (by omega) (zaa hn) ((hk.kept (hb.mono hB)).wider (by omega))) ?_;rintro e _ ⟨rfl,rfl⟩;exact⟨rfl,hb⟩
theorem zjw {g:Nat} {p:Prg} {p1 p2 p3 p4:Option Addr} {c1 c2 c3 c4 B:Nat} {w:World} (hc:zav w ⟨g,0,none⟩ (zb2 p p1 c1 p2 c2 p3 c3 p4 c4)) (hg:g<w.heap.size) (h1:RowB namE B w p1 p.locs) (hB:B<=w.heap.size) (hcap:p.locs.length<=c1) (hl:PrgLen p) :
  CB 184 #[At0 g] w (.bool (zhR p)):=by
 refine cofM 56 [At0 g] (.s .p (.c .p .p)) Tryz.func184 ?_;have hbd:Bw w w.drew:=(Ja _ w).drew;have hcd:zav w.drew ⟨g,0,none⟩ (zb2 p p1 c1 p2 c2 p3 c3 p4 c4):=zar hbd hc;have h1d:SlR namE w.drew p1 p.locs:=(h1.below (hbd.mono hB)).slr (Jj hB hbd.size);have hln:=hl.locs;refine⟨Unit,fun _=>⟨[(0,At0 g)],[]⟩,fun _ X=>(1<=p.locs.length/\p.locs.length<=6/\p.init.length=p.locs.length)/\X=w.drew,?_,?_⟩
 ·refine DrawE.ord [] [0,1,2,3,4,5,6,7,8,9,10,11,12,13,14,15,16,17,18,19,20,21,22,23,24,25,26] (by kernel_rfl) ⟨_,zac hcd (i:=1) rfl,biE (fun ha=>?_) fun ha=>?_⟩
  ·have ha:(p.locs.length:Int)<1:=dT ha;exact brT (brT ⟨rb (by unfold zhR;rw [Kb (by omega)];rfl),hbd⟩)
  ·have ha:¬ (p.locs.length:Int)<1:=dF ha;refine⟨_,zac hcd (i:=1) rfl,biE (fun hd=>?_) fun hd=>?_⟩
   ·have hd:(6:Int)<(p.locs.length:Int):=dT hd;exact brT ⟨rb (by unfold zhR;rw [Kb (p:=p.locs.length<=6) (by omega)];simp),hbd⟩
   ·have hd:¬ (6:Int)<(p.locs.length:Int):=dF hd;refine⟨_,zac hcd (i:=2) rfl,_,zac hcd (i:=1) rfl,biE (fun he=>?_) fun he=>?_⟩
    ·have he:(!decide ((p.init.length:Int)=(p.locs.length:Int)))=true:=he;have he:¬ (p.init.length:Int)=(p.locs.length:Int):=(by simpa using he);exact⟨rb (by unfold zhR;rw [Kb (p:=p.init.length=p.locs.length) (by omega)];simp),hbd⟩
    ·have he:(!decide ((p.init.length:Int)=(p.locs.length:Int)))=false:=he;have he:(p.init.length:Int)=(p.locs.length:Int):=(by simpa using he);exact⟨(),(cvE rfl rfl),⟨by omega,by omega,by omega⟩,rfl⟩
 rintro _ _ ⟨⟨l1,l6,li⟩,rfl⟩;have hdef:zhR p=zf9 [] p.locs:=by unfold zhR;rw [Ka l1,Ka l6,Ka li];rfl
 rw [hdef];refine⟨_,zac hcd (i:=1) rfl,?_⟩;refine⟨Nat,fun k=>⟨[(0,At0 g),(35,.slice p1 p.locs.length c1),(36,i64 p.locs.length),(37,i64 (k:Nat))],[]⟩,fun k X=>k<=p.locs.length/\zf9 (p.locs.take k) (p.locs.drop k)=zf9 [] p.locs/\X=w.drew,fun k=>p.locs.length-k,0,
  (cvE rfl rfl),⟨Jh _,rfl,rfl⟩,?_⟩
 rintro k _ ⟨hk,hna,rfl⟩;dsimp only at hk hna ⊢;refine biE (fun hc2=>?_) fun hc2=>?_
 ·have hc2:(k:Int)<(p.locs.length:Int):=dT hc2;have hkl:k<p.locs.length:=by omega
  obtain⟨b,o,rfl,hb,hat⟩:=h1d.at hkl;have hbk:Bw w w.drew:=hbd;refine⟨k,rfl,hkl,_,zac (hat k hkl) (i:=0) rfl,?_⟩;have hs:p.locs[k].length<=140737488351232:=hl.loc _ (gM _);have hstep:zf9 [] p.locs=(zhJ p.locs[k]&&(!((p.locs.take k).any fun q=>decide (q=p.locs[k]))&&zf9 (p.locs.take (k+1)) (p.locs.drop (k+1)))):=by
   rw [<- hna,JH hkl,tsg hkl];rfl
  refine cmo (zs5 p.locs[k] hs _) ?_;rintro e _ ⟨rfl,rfl⟩;refine biE (fun h=>?_) fun h=>?_
  ·have h:(!zhJ p.locs[k])=true:=h;have h:zhJ p.locs[k]=false:=by simpa using h
   exact brT ⟨rb (by rw [hstep,h];rfl),hbd⟩
  ·have h:(!zhJ p.locs[k])=false:=h;have h:zhJ p.locs[k]=true:=by simpa using h
   refine⟨_,zac hcd (i:=1) rfl,k,rfl,by omega,?_⟩;have hsub:SlR namE w.drew (zbo (some ⟨b,o,none⟩) c1 0 1) (p.locs.take k):=SlR.sub h1d (lo:=0) (hi:=k) (Jh _) (by omega) hcap;have htl:(p.locs.take k).length=k:=by rw [JD];omega
   have hcn:=zlz (zbo (some ⟨b,o,none⟩) c1 0 1) (c1-0) (p.locs.take k) p.locs[k] w.drew hsub (by omega);rw [htl] at hcn;refine cmo hcn ?_;rintro e _ ⟨rfl,rfl⟩;refine biE (fun h5=>?_) fun h5=>?_
   ·have h5:((p.locs.take k).any fun q=>decide (q=p.locs[k]))=true:=h5;exact⟨rb (by rw [hstep,h5];simp),hbd⟩
   ·have h5:((p.locs.take k).any fun q=>decide (q=p.locs[k]))=false:=h5;exact⟨_,(zaj (by omega)).trans rfl,k+1,(cvE rfl rfl),⟨hkl,by rw [hstep,h,h5];rfl,rfl⟩,zdc (by omega)⟩
 ·have hc2:¬ (k:Int)<(p.locs.length:Int):=dF hc2;obtain rfl:k=p.locs.length:=by omega
  rw [List.drop_length] at hna;exact⟨rb hna,hbd⟩
structure DmV (B:Nat) (X:World) (g bx:Nat) (p:Prg):Prop where
 hB:B<=X.heap.size
 hg:g<X.heap.size
 len:PrgLen p
 h:∃ p1 c1 p2 c2 p3 c3 p4 c4,zav X ⟨g,0,none⟩ (zb2 p p1 c1 p2 c2 p3 c3 p4 c4)/\RowB namE B X p1 p.locs/\RowB zaI B X p2 p.init/\ThrsV B X p3 p.threads/\KidsV B X p4 p.cond.kids/\p.locs.length<=c1
 b:X.heap[bx]?=some (.cells #[At0 g] 169 (0,0))
 G:GlobC X
theorem DmV.below {B:Nat} {X Y:World} {g bx:Nat} {p:Prg} (h:DmV B X g bx p) (hb:Bw X Y):DmV B Y g bx p:=by
 obtain⟨p1,c1,p2,c2,p3,c3,p4,c4,h0,h1,h2,h3,h4,h5⟩:=h.h;have hb':=hb.mono h.hB;exact⟨Jj h.hB hb.size,nL h.hg hb.size,h.len,⟨p1,c1,p2,c2,p3,c3,p4,c4,zar hb h0,h1.below hb',h2.below hb',h3.below hb',h4.kept hb',h5⟩,zab hb h.b,h.G.below hb⟩
def zmg (sel:Bool) (bx:Nat):Value:=match sel with
 | false => .func (.func 186) #[] #[]
 | true => .func (.func 188) #[] #[.pointer (some ⟨bx,0,none⟩)]
def zd9 (sel:Bool) (p:Prg) (l:List InsD):Bool:=match sel with
 | false=>decide (l.length<=12)
 | true=>zbQ l p.locs.length
section
variable {B g bx:Nat} {p:Prg} {w:World}
theorem zp6 (q:Option Addr) (cap:Nat) (l:List InsD):Calls Tryz.prog 186 #[.slice q l.length cap] w fun e w'=>e = .returned (.bool (decide (l.length<=12)))/\w=w':=by
 refine cofE 6 [.slice q l.length cap] Tryz.func186 ?_;refine⟨rb ?_,rfl⟩;rw [Kd];show ((l.length:Int)<=12)↔_;omega
theorem zob (h:DmV B w g bx p) {q:Option Addr} {cap:Nat} {l:List InsD} (hl:SlR insE w q l) (hn:l.length<=140737488351232) :
  CB 188 #[.slice q l.length cap,At0 bx] w (.bool (zbQ l p.locs.length)):=by
 refine cofE 11 [.slice q l.length cap,At0 bx] Tryz.func188 ?_;obtain⟨p1,c1,p2,c2,p3,c3,p4,c4,h0,h1,h2,h3,h4,h5⟩:=h.h;refine⟨_,zac (zaa h.b) (i:=0) rfl,_,zac h0 (i:=1) rfl,cmo (zkQ hl h.G hn) ?_⟩;rintro e V ⟨rfl,hb⟩;exact⟨rfl,hb⟩
theorem zm9 (sel:Bool) (h:DmV B w g bx p):CB 180 #[zmg sel bx,At0 bx] w (.bool (p.threads.all (zd9 sel p))):=by
 refine cofE 20 [zmg sel bx,At0 bx] Tryz.func180 ?_;obtain⟨p1,c1,p2,c2,p3,c3,p4,c4,h0,h1,h2,h3,h4,h5⟩:=h.h;obtain⟨xs,hxs,hr,hx⟩:=h3;have hlen:p.threads.length=xs.length:=by rw [<- hxs,Jc]
 have hln:=h.len.threads;refine⟨_,zac (zaa h.b) (i:=0) rfl,_,zac h0 (i:=3) rfl,?_⟩;refine⟨Nat,fun k=>⟨[(0,zmg sel bx),(1,At0 bx),(9,.slice p3 p.threads.length c3),(10,i64 p.threads.length),(11,i64 (k:Nat))],[]⟩,fun k X=>k<=p.threads.length/\(∀ l∈p.threads.take k,zd9 sel p l=true)/\Bw w X,fun k=>p.threads.length-k,0,
  (cvE rfl rfl),⟨Jh _,by simp,Ja _ _⟩,?_⟩
 rintro k X ⟨hk,hall,hbX⟩;dsimp only at hk hall ⊢;have hX:=h.below hbX;refine biE (fun hc=>?_) fun hc=>?_
 ·have hc:(k:Int)<(p.threads.length:Int):=dT hc;have hkl:k<p.threads.length:=by omega
  have hkx:k<xs.length:=by omega
  have e1:p.threads[k]=xs[k].1:=by simp [<- hxs]
  obtain⟨b,o,hp3,hat⟩:=hr.get;rcases hp3 with hp3 | rfl
  ·omega
  refine⟨k,rfl,hkl,?_⟩;obtain⟨hb1,ha1⟩:=hat k hkx;refine⟨_,zac (zbb (hbX.mono h.hB) hb1 ha1) (i:=0) rfl,?_⟩;have hrow:SlR insE X xs[k].2.1 xs[k].1:=((hx _ (gM hkx)).below (hbX.mono h.hB)).slr hX.hB;have hln1:xs[k].1.length<=140737488351232:=by rw [<- e1];exact h.len.thread _ (gM _)
  have hfin:zd9 sel p xs[k].1=false->p.threads.all (zd9 sel p)=false:=fun hf=>by
   rw [List.all_eq_false];exact⟨p.threads[k],gM _,by rw [e1,hf];simp⟩
  have hgo:zd9 sel p xs[k].1=true->∀ l∈p.threads.take (k+1),zd9 sel p l=true:=fun ht=>by
   rw [tsg hkl];intro x hx;rcases JM.1 hx with hx | hx
   ·exact hall x hx
   ·simp only [Jl] at hx;rw [hx,e1];exact ht
  cases sel with
  | false =>
   refine cmo (zp6 xs[k].2.1 xs[k].2.2 xs[k].1) ?_;rintro e _ ⟨rfl,rfl⟩;refine biE (fun hb=>?_) fun hb=>?_
   ·have hb:(!zd9 false p xs[k].1)=true:=hb;exact⟨rb (hfin (by simpa using hb)).symm,hbX⟩
   ·have hb:(!zd9 false p xs[k].1)=false:=hb;exact⟨_,(zaj (by omega)).trans rfl,k+1,(cvE rfl rfl),⟨hkl,hgo (by simpa using hb),hbX⟩,zdc (by omega)⟩
  | true =>
   refine cmo (zob hX (cap:=xs[k].2.2) hrow hln1) ?_;rintro e Y ⟨rfl,hbY⟩;refine biE (fun hb=>?_) fun hb=>?_
   ·have hb:(!zd9 true p xs[k].1)=true:=hb;exact⟨rb (hfin (by simpa using hb)).symm,(zst hbX hbY)⟩
   ·have hb:(!zd9 true p xs[k].1)=false:=hb;exact⟨_,(zaj (by omega)).trans rfl,k+1,(cvE rfl rfl),⟨hkl,hgo (by simpa using hb),(zst hbX hbY)⟩,zdc (by omega)⟩
 ·have hc:¬ (k:Int)<(p.threads.length:Int):=dF hc;obtain rfl:k=p.threads.length:=by omega
  rw [JF] at hall;exact⟨rb (Je.2 hall).symm,hbX⟩
theorem zsK (h:DmV B w g bx p):CB 181 #[At0 bx] w (.bool (ze4 p.name)):=by
 refine cofE 7 [At0 bx] Tryz.func181 ?_;obtain⟨p1,c1,p2,c2,p3,c3,p4,c4,h0,h1,h2,h3,h4,h5⟩:=h.h;refine⟨_,zac (zaa h.b) (i:=0) rfl,_,zac h0 (i:=0) rfl,cmo (zoT p.name h.len.name w) ?_⟩;rintro e V ⟨rfl,hb⟩;exact⟨rfl,hb⟩
theorem zsJ (h:DmV B w g bx p):CB 183 #[At0 bx] w (.bool (zhR p)):=by
 refine cofE 4 [At0 bx] Tryz.func183 ?_;obtain⟨p1,c1,p2,c2,p3,c3,p4,c4,h0,h1,h2,h3,h4,h5⟩:=h.h;refine⟨_,zac (zaa h.b) (i:=0) rfl,cmo (zjw h0 h.hg h1 h.hB h5 h.len) ?_⟩;rintro e V ⟨rfl,hb⟩;exact⟨rfl,hb⟩
def evV (bx:Nat):Value := .func (.func 180) #[] #[At0 bx]
theorem zsI (h:DmV B w g bx p) {ev:Nat} (hev:w.heap[ev]?=some (.cells #[evV bx] 276 (0,0))):CB 185 #[At0 bx,At0 ev] w (.bool (decide (1<=p.threads.length)&&(decide (p.threads.length<=4)&&p.threads.all fun l=>decide (l.length<=12)))):=by
 refine cofE 21 [At0 bx,At0 ev] Tryz.func185 ?_;obtain⟨p1,c1,p2,c2,p3,c3,p4,c4,h0,h1,h2,h3,h4,h5⟩:=h.h;refine⟨_,zac (zaa h.b) (i:=0) rfl,_,zac h0 (i:=3) rfl,biE (fun ha=>?_) fun ha=>?_⟩
 ·have ha:(1:Int)<=(p.threads.length:Int):=dT ha;refine⟨_,zac (zaa h.b) (i:=0) rfl,_,zac h0 (i:=3) rfl,biE (fun hb=>?_) fun hb=>?_⟩
  ·have hb:(p.threads.length:Int)<=4:=dT hb;refine⟨_,zac (zaa hev) (i:=0) rfl,cmo (zm9 false h) ?_⟩;rintro e V ⟨rfl,hbV⟩;refine⟨rb ?_,hbV⟩;rw [Ka (by omega),Ka (by omega),Js,Js];rfl
  ·have hb:¬ (p.threads.length:Int)<=4:=dF hb;exact⟨rb (by rw [Kb (p:=p.threads.length<=4) (by omega)];simp),Ja _ _⟩
 ·have ha:¬ (1:Int)<=(p.threads.length:Int):=dF ha;exact brF ⟨rb (by rw [Kb (p:=1<=p.threads.length) (by omega)];rfl),Ja _ _⟩
theorem zsH (h:DmV B w g bx p) {ev:Nat} (hev:w.heap[ev]?=some (.cells #[evV bx] 276 (0,0))):CB 187 #[At0 ev,At0 bx] w (.bool (p.threads.all fun l=>zbQ l p.locs.length)):=by
 refine cofE 6 [At0 ev,At0 bx] Tryz.func187 ?_;refine⟨_,zac (zaa hev) (i:=0) rfl,cmo (zm9 true h) ?_⟩;rintro e V ⟨rfl,hbV⟩;exact⟨rfl,hbV⟩
theorem zsG (h:DmV B w g bx p):CB 190 #[At0 bx] w (.bool (decide (p.ask=1)||(decide (p.ask=2)||decide (p.ask=3)))):=by
 refine cofE 21 [At0 bx] Tryz.func190 ?_;obtain⟨p1,c1,p2,c2,p3,c3,p4,c4,h0,h1,h2,h3,h4,h5⟩:=h.h;refine⟨_,zac (zaa h.b) (i:=0) rfl,_,zac h0 (i:=4) rfl,biE (fun ha=>?_) fun ha=>?_⟩
 ·have ha:decide (p.ask=1)=true:=(u8d p.ask 1).symm.trans ha;exact brT ⟨rb (by rw [ha];rfl),Ja _ _⟩
 ·have ha:decide (p.ask=1)=false:=(u8d p.ask 1).symm.trans ha;refine⟨_,zac (zaa h.b) (i:=0) rfl,_,zac h0 (i:=4) rfl,biE (fun hb=>?_) fun hb=>?_⟩
  ·have hb:decide (p.ask=2)=true:=(u8d p.ask 2).symm.trans hb;exact⟨rb (by rw [ha,hb];rfl),Ja _ _⟩
  ·have hb:decide (p.ask=2)=false:=(u8d p.ask 2).symm.trans hb;exact⟨_,zac (zaa h.b) (i:=0) rfl,_,zac h0 (i:=4) rfl,rb (by rw [ha,hb];exact u8d p.ask 3),Ja _ _⟩
theorem zsF (h:DmV B w g bx p):CB 191 #[At0 bx] w (.bool (zcK p.threads.length p.locs.length 20 p.cond)):=by
 refine cofE 17 [At0 bx] Tryz.func191 ?_;have hbd:Bw w w.drew:=(Ja _ w).drew;have hd:=h.below hbd;obtain⟨p1,c1,p2,c2,p3,c3,p4,c4,h0,h1,h2,h3,h4,h5⟩:=hd.h;refine DrawE.ord [] [0,1,2,3,4,5,6,7,8,9,10,11,12,13,14,15] (by kernel_rfl) ⟨_,zac (zaa hd.b) (i:=0) rfl,zcU p.cond p4 c4,rfl,zaD (n:=5) (m:=5) h0,hd.hg,_,zac (zaa hd.b) (i:=0) rfl,_,zac h0 (i:=3) rfl,_,zac (zaa hd.b) (i:=0) rfl,_,zac h0 (i:=1) rfl,cmo (ztg hd.hB h4) ?_⟩;rintro e V ⟨rfl,hbV⟩;exact⟨hbV,rfl,hbd.trans hbV⟩
def dmFs (bx ev:Nat):List Value:=[i64 70,.func (.func 181) #[] #[At0 bx],i64 71,.func (.func 183) #[] #[At0 bx],
 i64 72,.func (.func 185) #[] #[At0 bx,At0 ev],i64 73,.func (.func 187) #[] #[At0 ev,At0 bx],
 i64 75,.func (.func 190) #[] #[At0 bx],i64 74,.func (.func 191) #[] #[At0 bx]]
theorem znk {g:Nat} {w:World}:Calls Tryz.prog 134 #[At0 g] w fun e w'=>e = .returned (.slice (some ⟨w.heap.size+2,0,none⟩) 6 6) /\
  w'.heap[w.heap.size]?=some (.cells #[At0 g] 169 (0,0))/\w'.heap[w.heap.size+1]?=some (.cells #[evV w.heap.size] 276 (0,0)) /\
  w'.heap[w.heap.size+2]?=some (.cells (dmFs w.heap.size (w.heap.size+1)).toArray 228 (0,0))/\w'.heap.size=w.heap.size+3/\Bw w w':=by
 refine cofE 18 [At0 g] Tryz.func134 ?_;have hs:=wz w (.cells (At0 g).cells 169);refine zak (X:=w.alloc (.cells (At0 g).cells 169)) (v:=evV w.heap.size) k276 rfl rfl rfl fun V hbV fV sV=>?_;generalize hev:(w.alloc (.cells (At0 g).cells 169)).heap.size=ev at *;refine⟨[i64 70,.func (.func 181) #[] #[.pointer (some ⟨w.heap.size,0,none⟩)]],rfl,[i64 71,.func (.func 183) #[] #[.pointer (some ⟨w.heap.size,0,none⟩)]],rfl,[i64 72,.func (.func 185) #[] #[.pointer (some ⟨w.heap.size,0,none⟩),At0 ev]],rfl,[i64 73,.func (.func 187) #[] #[At0 ev,.pointer (some ⟨w.heap.size,0,none⟩)]],rfl,[i64 75,.func (.func 190) #[] #[.pointer (some ⟨w.heap.size,0,none⟩)]],rfl,[i64 74,.func (.func 191) #[] #[.pointer (some ⟨w.heap.size,0,none⟩)]],rfl,⟨by decide,by decide,rfl⟩,dmFs w.heap.size ev,rfl,?_⟩;subst hs;refine⟨?_,?_,?_,?_,?_,?_⟩
 ·rw [sV];rfl
 ·exact hold _ (zab (show Below _ _ _ from hev▸hbV) (hnew w _))
 ·exact hold _ fV
 ·rw [show w.heap.size+2=V.heap.size from sV.symm];exact hnew _ _
 ·rw [wz,sV]
 ·exact (((zba w _)).trans (hbV.mono (by omega))).alloc (by omega) _
end
def okL (p:Prg):List Bool:=[ze4 p.name,zhR p,decide (1<=p.threads.length)&&(decide (p.threads.length<=4)&&p.threads.all fun l=>decide (l.length<=12)),p.threads.all (fun l=>zbQ l p.locs.length),
 decide (p.ask=1)||(decide (p.ask=2)||decide (p.ask=3)),zcK p.threads.length p.locs.length 20 p.cond]
theorem zmG {p:Prg}:zjr p=(okL p).all id:=by
 unfold zjr okL;simp only [List.all_cons,List.all_nil,Bool.and_true,id]
theorem znP {B:Nat} {p:Prg} {vs:List Value} {w:World} (hB:B<=w.heap.size) (hp:PrgV B w vs p) (hG:GlobC w) :
  Calls Tryz.prog 85 #[.agg vs.toArray] w fun e w'=>∃ n:Int,e = .returned (i64 n)/\(n=0↔zjr p=true)/\Bw w w':=by
 obtain⟨hl,p1,c1,p2,c2,p3,c3,p4,c4,rfl,h1,h2,h3,h4,h5⟩:=hp;refine cofE 18 [.agg (zb2 p p1 c1 p2 c2 p3 c3 p4 c4).toArray] Tryz.func85 ?_;obtain⟨L,hL⟩:=nm (w.heap.size);have hn:=hnew w (.cells (Value.agg (zb2 p p1 c1 p2 c2 p3 c3 p4 c4).toArray).cells 103);have hs:=wz w (.cells (Value.agg (zb2 p p1 c1 p2 c2 p3 c3 p4 c4).toArray).cells 103);have hb:Bw w (w.alloc (.cells (Value.agg (zb2 p p1 c1 p2 c2 p3 c3 p4 c4).toArray).cells 103)):=zba w _;refine cmo znk ?_;rintro e V ⟨rfl,hbx,hev,hsl,hsz,hbV⟩;have hbw:Bw w V:=zst hb hbV;have p1':some (Value.slice (some ⟨(w.alloc (.cells (Value.agg (zb2 p p1 c1 p2 c2 p3 c3 p4 c4).toArray).cells 103)).heap.size+2,0,none⟩) 6 6)=some (Value.slice (some ⟨L+3,0,none⟩) 6 6):=by rw [hs,hL]
 have hD:DmV B V L (L+1) p:=by
  have hbB:=hbw.mono hB;rw [hs,<- hL] at hbx;refine⟨Jj hB hbw.size,by omega,hl,⟨p1,c1,p2,c2,p3,c3,p4,c4,zaa (zab hbV (hL▸hn)),h1.below hbB,h2.below hbB,h3.below hbB,h4.kept hbB,h5⟩,hbx,hG.below hbw⟩
 rw [hs,<- hL] at hev hsl;clear hn hs hb hbx hbV hsz;refine⟨Nat,fun j=>⟨[(5,.slice (some ⟨L+3,0,none⟩) 6 6),(6,i64 6),(7,i64 (j:Nat))],[]⟩,
  fun j X=>j<=6/\(∀ i,i<j->(okL p)[i]?=some true)/\DmV B X L (L+1) p/\X.heap[L+2]?=some (.cells #[evV (L+1)] 276 (0,0))/\X.heap[L+3]?=some (.cells (dmFs (L+1) (L+2)).toArray 228 (0,0))/\Bw w X,fun j=>6-j,0,
  ⟨.cons p1' (.cons rfl (.cons rfl .nil)),rfl⟩,⟨Jh _,fun i hi=>by omega,hD,hev,hsl,hbw⟩,?_⟩
 clear hD hev hsl hbw p1';rintro j X ⟨hj,hpre,hD,hev,hsl,hbw⟩;dsimp only at hj hpre ⊢;refine biE (fun hc=>?_) fun hc=>?_
 ·have hc:(j:Int)<6:=dT hc;have hno:∀ {i:Nat},(okL p)[i]?=some false->zjr p=false:=fun h=>by rw [zmG];exact zpN h
  have hcs:j=0\/j=1\/j=2\/j=3\/j=4\/j=5:=by omega
  rcases hcs with rfl | rfl | rfl | rfl | rfl | rfl
  ·refine⟨0,rfl,by decide,?_⟩;refine⟨[i64 70,.func (.func 181) #[] #[At0 (L+1)]],rfl,zaD (n:=0) (m:=2) (zaa hsl),hlt hsl,zak (X:=X) (v := .agg [i64 70,.func (.func 181) #[] #[At0 (L+1)]].toArray) k228 rfl rfl rfl fun Y hbY fY sY=>?_⟩;have hY:=hD.below hbY;have hevY:=zab hbY hev;have hslY:=zab hbY hsl;refine⟨_,zac (zaa fY) (i:=1) rfl,cmo (zsK hY) ?_⟩;rintro e W ⟨rfl,hbW⟩;have hbX:Bw w W:=((zst hbw hbY)).trans (hbW.mono (Jj hbw.size hbY.size));refine biE (fun hb=>?_) fun hb=>?_
   ·have hb:(!((okL p)[0]'(by show 0<6;decide)))=true:=hb;have hb:(okL p)[0]?=some false:=(by rw [gE (by show 0<6;decide)];exact congrArg some (by rw [<- Bool.not_not ((okL p)[0]'(by show 0<6;decide)),hb];rfl));exact⟨_,zac (zaa (zab hbW fY)) (i:=0) rfl,70,rfl,⟨fun h=>Kv h (by decide),fun h=>by rw [hno hb] at h;cases h⟩,hbX⟩
   ·have hb:(!((okL p)[0]'(by show 0<6;decide)))=false:=hb;have hb:(okL p)[0]?=some true:=(by rw [gE (by show 0<6;decide)];exact congrArg some (by rw [<- Bool.not_not ((okL p)[0]'(by show 0<6;decide)),hb];rfl));refine⟨_,(zaj (by omega)).trans rfl,1,(cvE rfl rfl),⟨by omega,fun i hi=>?_,hY.below hbW,zab hbW hevY,zab hbW hslY,hbX⟩,by decide⟩;by_cases hik:i=0
    ·rw [hik];exact hb
    ·exact hpre i (by omega)
  ·refine⟨1,rfl,by decide,?_⟩;refine⟨[i64 71,.func (.func 183) #[] #[At0 (L+1)]],rfl,zaD (n:=2) (m:=2) (zaa hsl),hlt hsl,zak (X:=X) (v := .agg [i64 71,.func (.func 183) #[] #[At0 (L+1)]].toArray) k228 rfl rfl rfl fun Y hbY fY sY=>?_⟩;have hY:=hD.below hbY;have hevY:=zab hbY hev;have hslY:=zab hbY hsl;refine⟨_,zac (zaa fY) (i:=1) rfl,cmo (zsJ hY) ?_⟩;rintro e W ⟨rfl,hbW⟩;have hbX:Bw w W:=((zst hbw hbY)).trans (hbW.mono (Jj hbw.size hbY.size));refine biE (fun hb=>?_) fun hb=>?_
   ·have hb:(!((okL p)[1]'(by show 1<6;decide)))=true:=hb;have hb:(okL p)[1]?=some false:=(by rw [gE (by show 1<6;decide)];exact congrArg some (by rw [<- Bool.not_not ((okL p)[1]'(by show 1<6;decide)),hb];rfl));exact⟨_,zac (zaa (zab hbW fY)) (i:=0) rfl,71,rfl,⟨fun h=>Kv h (by decide),fun h=>by rw [hno hb] at h;cases h⟩,hbX⟩
   ·have hb:(!((okL p)[1]'(by show 1<6;decide)))=false:=hb;have hb:(okL p)[1]?=some true:=(by rw [gE (by show 1<6;decide)];exact congrArg some (by rw [<- Bool.not_not ((okL p)[1]'(by show 1<6;decide)),hb];rfl));refine⟨_,(zaj (by omega)).trans rfl,2,(cvE rfl rfl),⟨by omega,fun i hi=>?_,hY.below hbW,zab hbW hevY,zab hbW hslY,hbX⟩,by decide⟩;by_cases hik:i=1
    ·rw [hik];exact hb
    ·exact hpre i (by omega)
  ·refine⟨2,rfl,by decide,?_⟩;refine⟨[i64 72,.func (.func 185) #[] #[At0 (L+1),At0 (L+2)]],rfl,zaD (n:=4) (m:=2) (zaa hsl),hlt hsl,zak (X:=X) (v := .agg [i64 72,.func (.func 185) #[] #[At0 (L+1),At0 (L+2)]].toArray) k228 rfl rfl rfl fun Y hbY fY sY=>?_⟩;have hY:=hD.below hbY;have hevY:=zab hbY hev;have hslY:=zab hbY hsl;refine⟨_,zac (zaa fY) (i:=1) rfl,cmo (zsI hY hevY) ?_⟩;rintro e W ⟨rfl,hbW⟩;have hbX:Bw w W:=((zst hbw hbY)).trans (hbW.mono (Jj hbw.size hbY.size));refine biE (fun hb=>?_) fun hb=>?_
   ·have hb:(!((okL p)[2]'(by show 2<6;decide)))=true:=hb;have hb:(okL p)[2]?=some false:=(by rw [gE (by show 2<6;decide)];exact congrArg some (by rw [<- Bool.not_not ((okL p)[2]'(by show 2<6;decide)),hb];rfl));exact⟨_,zac (zaa (zab hbW fY)) (i:=0) rfl,72,rfl,⟨fun h=>Kv h (by decide),fun h=>by rw [hno hb] at h;cases h⟩,hbX⟩
   ·have hb:(!((okL p)[2]'(by show 2<6;decide)))=false:=hb;have hb:(okL p)[2]?=some true:=(by rw [gE (by show 2<6;decide)];exact congrArg some (by rw [<- Bool.not_not ((okL p)[2]'(by show 2<6;decide)),hb];rfl));refine⟨_,(zaj (by omega)).trans rfl,3,(cvE rfl rfl),⟨by omega,fun i hi=>?_,hY.below hbW,zab hbW hevY,zab hbW hslY,hbX⟩,by decide⟩;by_cases hik:i=2
    ·rw [hik];exact hb
    ·exact hpre i (by omega)
  ·refine⟨3,rfl,by decide,?_⟩;refine⟨[i64 73,.func (.func 187) #[] #[At0 (L+2),At0 (L+1)]],rfl,zaD (n:=6) (m:=2) (zaa hsl),hlt hsl,zak (X:=X) (v := .agg [i64 73,.func (.func 187) #[] #[At0 (L+2),At0 (L+1)]].toArray) k228 rfl rfl rfl fun Y hbY fY sY=>?_⟩;have hY:=hD.below hbY;have hevY:=zab hbY hev;have hslY:=zab hbY hsl;refine⟨_,zac (zaa fY) (i:=1) rfl,cmo (zsH hY hevY) ?_⟩;rintro e W ⟨rfl,hbW⟩;have hbX:Bw w W:=((zst hbw hbY)).trans (hbW.mono (Jj hbw.size hbY.size));refine biE (fun hb=>?_) fun hb=>?_
   ·have hb:(!((okL p)[3]'(by show 3<6;decide)))=true:=hb;have hb:(okL p)[3]?=some false:=(by rw [gE (by show 3<6;decide)];exact congrArg some (by rw [<- Bool.not_not ((okL p)[3]'(by show 3<6;decide)),hb];rfl));exact⟨_,zac (zaa (zab hbW fY)) (i:=0) rfl,73,rfl,⟨fun h=>Kv h (by decide),fun h=>by rw [hno hb] at h;cases h⟩,hbX⟩
   ·have hb:(!((okL p)[3]'(by show 3<6;decide)))=false:=hb;have hb:(okL p)[3]?=some true:=(by rw [gE (by show 3<6;decide)];exact congrArg some (by rw [<- Bool.not_not ((okL p)[3]'(by show 3<6;decide)),hb];rfl));refine⟨_,(zaj (by omega)).trans rfl,4,(cvE rfl rfl),⟨by omega,fun i hi=>?_,hY.below hbW,zab hbW hevY,zab hbW hslY,hbX⟩,by decide⟩;by_cases hik:i=3
    ·rw [hik];exact hb
    ·exact hpre i (by omega)
  ·refine⟨4,rfl,by decide,?_⟩;refine⟨[i64 75,.func (.func 190) #[] #[At0 (L+1)]],rfl,zaD (n:=8) (m:=2) (zaa hsl),hlt hsl,zak (X:=X) (v := .agg [i64 75,.func (.func 190) #[] #[At0 (L+1)]].toArray) k228 rfl rfl rfl fun Y hbY fY sY=>?_⟩;have hY:=hD.below hbY;have hevY:=zab hbY hev;have hslY:=zab hbY hsl;refine⟨_,zac (zaa fY) (i:=1) rfl,cmo (zsG hY) ?_⟩;rintro e W ⟨rfl,hbW⟩;have hbX:Bw w W:=((zst hbw hbY)).trans (hbW.mono (Jj hbw.size hbY.size));refine biE (fun hb=>?_) fun hb=>?_
   ·have hb:(!((okL p)[4]'(by show 4<6;decide)))=true:=hb;have hb:(okL p)[4]?=some false:=(by rw [gE (by show 4<6;decide)];exact congrArg some (by rw [<- Bool.not_not ((okL p)[4]'(by show 4<6;decide)),hb];rfl));exact⟨_,zac (zaa (zab hbW fY)) (i:=0) rfl,75,rfl,⟨fun h=>Kv h (by decide),fun h=>by rw [hno hb] at h;cases h⟩,hbX⟩
   ·have hb:(!((okL p)[4]'(by show 4<6;decide)))=false:=hb;have hb:(okL p)[4]?=some true:=(by rw [gE (by show 4<6;decide)];exact congrArg some (by rw [<- Bool.not_not ((okL p)[4]'(by show 4<6;decide)),hb];rfl));refine⟨_,(zaj (by omega)).trans rfl,5,(cvE rfl rfl),⟨by omega,fun i hi=>?_,hY.below hbW,zab hbW hevY,zab hbW hslY,hbX⟩,by decide⟩;by_cases hik:i=4
    ·rw [hik];exact hb
    ·exact hpre i (by omega)
  ·refine⟨5,rfl,by decide,?_⟩;refine⟨[i64 74,.func (.func 191) #[] #[At0 (L+1)]],rfl,zaD (n:=10) (m:=2) (zaa hsl),hlt hsl,zak (X:=X) (v := .agg [i64 74,.func (.func 191) #[] #[At0 (L+1)]].toArray) k228 rfl rfl rfl fun Y hbY fY sY=>?_⟩;have hY:=hD.below hbY;have hevY:=zab hbY hev;have hslY:=zab hbY hsl;refine⟨_,zac (zaa fY) (i:=1) rfl,cmo (zsF hY) ?_⟩;rintro e W ⟨rfl,hbW⟩;have hbX:Bw w W:=((zst hbw hbY)).trans (hbW.mono (Jj hbw.size hbY.size));refine biE (fun hb=>?_) fun hb=>?_
   ·have hb:(!((okL p)[5]'(by show 5<6;decide)))=true:=hb;have hb:(okL p)[5]?=some false:=(by rw [gE (by show 5<6;decide)];exact congrArg some (by rw [<- Bool.not_not ((okL p)[5]'(by show 5<6;decide)),hb];rfl));exact⟨_,zac (zaa (zab hbW fY)) (i:=0) rfl,74,rfl,⟨fun h=>Kv h (by decide),fun h=>by rw [hno hb] at h;cases h⟩,hbX⟩
   ·have hb:(!((okL p)[5]'(by show 5<6;decide)))=false:=hb;have hb:(okL p)[5]?=some true:=(by rw [gE (by show 5<6;decide)];exact congrArg some (by rw [<- Bool.not_not ((okL p)[5]'(by show 5<6;decide)),hb];rfl));refine⟨_,(zaj (by omega)).trans rfl,6,(cvE rfl rfl),⟨by omega,fun i hi=>?_,hY.below hbW,zab hbW hevY,zab hbW hslY,hbX⟩,by decide⟩;by_cases hik:i=5
    ·rw [hik];exact hb
    ·exact hpre i (by omega)
 ·have hc:¬ (j:Int)<6:=dF hc;obtain rfl:j=6:=by omega
  exact⟨0,rfl,⟨fun _=>by rw [zmG];exact zkO hpre rfl,fun _=>rfl⟩,hbw⟩
def ThrsW (B:Nat) (w:World) (p:Option Addr) (l:List (List InsD)):Prop:=∃ xs:List ThrR,xs.map (·.1)=l/\RowB thrE B w p xs/\∀ x∈xs,RowB insE B w x.2.1 x.1/\∀ a,x.2.1=some a->a.block<B
structure PrgX (B:Nat) (w:World) (vs:List Value) (p:Prg):Prop where
 v:PrgV B w vs p
 th:∃ p3 c3,vs[3]?=some (.slice p3 p.threads.length c3)/\ThrsW B w p3 p.threads
 init:∃ p2 c2,vs[2]?=some (.slice p2 p.init.length c2)/\RowB zaI B w p2 p.init
theorem ThrsW.below {B:Nat} {w w2:World} {p:Option Addr} {l:List (List InsD)} (h:ThrsW B w p l) (hb:Below B w w2):ThrsW B w2 p l:=by
 obtain⟨xs,h1,h2,h3⟩:=h;exact⟨xs,h1,h2.below hb,fun x hx=>⟨(h3 x hx).1.below hb,(h3 x hx).2⟩⟩
theorem PrgX.below {B:Nat} {w w2:World} {vs:List Value} {p:Prg} (h:PrgX B w vs p) (hb:Below B w w2):PrgX B w2 vs p:=by
 obtain⟨h1,⟨p3,c3,h2,h3⟩,⟨p2,c2,h4,h5⟩⟩:=h;exact⟨h1.below hb,⟨p3,c3,h2,h3.below hb⟩,⟨p2,c2,h4,h5.below hb⟩⟩
def zis (threads:List (List InsD)) (vals:List UInt8):Bool :=
 decide (1<=vals.length)&&(decide (vals.length<=12)&&((threads.all fun l=>decide ((zcJ l vals).length<=4096))&&(decide ((vals++threads.flatMap fun l=>zcc (zcJ l vals)).length<=12)&&srt8 (vals++threads.flatMap fun l=>zcc (zcJ l vals)))))
def zhF (threads:List (List InsD)) (vals:List UInt8):List UInt8:=ded (vals++threads.flatMap fun l=>zcc (zcJ l vals))
def zkV (threads:List (List InsD)):Nat->List UInt8->Option (List UInt8)
 | 0,_=>none
 | n+1,vals=>if zis threads vals=true then (if (zhF threads vals).length=vals.length then some vals else zkV threads n (zhF threads vals)) else none
structure RunK (l:List InsD) (R:RunD):Prop where
 m:R.many<=R.pc
 p:R.pc<=l.length
 d:∀ i,R.deps i<2^32
 c:R.ctl<2^32
 s:∀ i,R.data i<2^32/\R.ctrl i<2^32/\R.att i<2^32
theorem ztr {n:Nat} (h:n<32):2^n<2^32:=Nat.pow_lt_pow_right (by decide) h
theorem zlM {f:Nat->Nat} {b:Nat} (h:∀ i,f i<b) {k v:Nat} (hv:v<b):∀ i,upd f k v i<b:=fun i=>by
 by_cases e:i=k
 ·rw [e,zbn];exact hv
 ·rw [zcL _ _ e];exact h i
theorem RunK.emit {l:List InsD} {R:RunD} (h:RunK l R) {k a v m:UInt8} {d:Nat} (hd:d<2^32):(∀ i,(zeK R k a v m d).deps i<2^32)/\(zeK R k a v m d).ctl<2^32/\∀ i,(zeK R k a v m d).data i<2^32/\(zeK R k a v m d).ctrl i<2^32/\(zeK R k a v m d).att i<2^32:=by
 unfold zeK;exact⟨h.d,h.c,fun i=>⟨zlM (fun i=>(h.s i).1) hd i,zlM (fun i=>(h.s i).2.1) h.c i,(h.s i).2.2⟩⟩
theorem RunK.exec {l:List InsD} {R:RunD} {x:InsD} {v:UInt8} (h:RunK l R) (hx:ExOk x) (hp:R.pc<l.length) (h12:l.length<=12):RunK l (zbl R x v):=by
 obtain⟨e1,e2⟩:=zjJ (R:=R) (v:=v) hx;have hm:=h.m;have hb:=ztr (n:=R.many) (by omega);have hs:(∀ i,(zbl R x v).deps i<2^32)/\(zbl R x v).ctl<2^32/\∀ i,(zbl R x v).data i<2^32/\(zbl R x v).ctrl i<2^32/\(zbl R x v).att i<2^32:=by
  unfold zbl effR;rcases hx with ⟨ho,_⟩ | ⟨ho,_⟩ | ho
  ·rw [Kc ho];have:=h.emit (k:=1) (a:=x.loc) (v:=v) (m:=x.mode) (d:=0) (by decide);exact⟨zlM this.1 hb,this.2.1,this.2.2⟩
  ·rw [JZ (by rw [ho];decide),Kc ho];refine h.emit (k:=2) (a:=x.loc) (v:=(valR x.ar x.an R).1) (m:=x.mode) ?_;unfold valR
   split
   ·exact h.d _
   ·exact (by decide:0<2^32)
  ·rw [JZ (by rw [ho];decide),JZ (by rw [ho];decide),JZ (by rw [ho];decide),JZ (by rw [ho];decide),JZ (by rw [ho];decide),JZ (by rw [ho];decide),Kc ho];exact h.emit (k:=3) (a:=0) (v:=0) (m:=x.mode) (d:=0) (by decide)
 exact⟨by rw [e1,e2];omega,by rw [e1];omega,hs.1,hs.2.1,hs.2.2⟩
theorem RunK.go {l:List InsD} (h12:l.length<=12) (hx:∀ x∈l,ExOk x):∀ (n:Nat) (R:RunD),RunK l R->RunK l (goR l n R)
 | 0,R,h=>h
 | n+1,R,h=>by
  unfold goR
  split
  ·exact h
  ·rename_i x he
   split
   ·exact h
   ·have hp:=(Ju.1 he).1;have hm:x∈l:=Kr he;exact RunK.go h12 hx n _ (h.exec (hx x hm) hp h12)
theorem RunK.spread {l:List InsD} {dom:List UInt8} (h12:l.length<=12) (hx:∀ x∈l,ExOk x):∀ (n:Nat) (R:RunD),RunK l R->∀ S∈zaN l dom n R,RunK l S
 | 0,R,h,S,hS=>by
  have hS:S∈[goR l l.length R]:=hS;rw [Jl] at hS;rw [hS];exact RunK.go h12 hx _ _ h
 | n+1,R,h,S,hS=>by
  have hg:=RunK.go h12 hx l.length R h;unfold zaN at hS
  split at hS
  ·rw [Jl] at hS;rw [hS];exact hg
  ·rename_i x he;obtain⟨v,_,hS⟩:=List.mem_flatMap.1 hS;have hp:=(Ju.1 he).1;have hm:x∈l:=Kr he;exact RunK.spread h12 hx n _ (hg.exec (hx x hm) hp h12) S hS
theorem znd {l:List InsD} {dom:List UInt8} (h12:l.length<=12) (hx:∀ x∈l,ExOk x):∀ R∈zcJ l dom,R.many<=24/\RunB R:=fun R hR=>by
 have h0:RunK l run0:=⟨Jb _,Jh _,fun _=>(by decide:0<2^32),(by decide:0<2^32),fun _=>⟨(by decide:0<2^32),(by decide:0<2^32),(by decide:0<2^32)⟩⟩;have h:=RunK.spread h12 hx _ _ h0 R hR;have:=h.m;have:=h.p;exact⟨by omega,fun i _=>h.s i⟩
theorem zmf {α:Type} {E:Enc α} {B:Nat} {w:World} {p:Option Addr} {l:List α} (h:RowB E B w p l) {i:Nat} (hi:i<l.length):∃ b o,p=some ⟨b,o,none⟩/\b<B/\∀ i (h:i<l.length),zav w ⟨b,o+i*E.sz,none⟩ (E.enc l[i]):=by
 obtain⟨b,o,hp,hat⟩:=h.get;rcases hp with hp | hp
 ·omega
 ·exact⟨b,o,hp,(hat i hi).1,fun j hj=>(hat j hj).2⟩
section
variable {B n:Nat} {p:Prg} {pc:List Value} {V:List UInt8} {w:World}
theorem zpk (hB:B<=w.heap.size) (hP:PrgX B w pc p) (hG:GlobE w) (hok:zjr p=true) (hx:∀ l∈p.threads,∀ x∈l,ExOk x) (h12:∀ l∈p.threads,l.length<=12) (hi1:1<=p.init.length) (hi12:p.init.length<=12) (his:srt8 p.init=true) (hQ:zkV p.threads n (ded p.init)=some V) :
  Calls Tryz.prog 86 #[.agg pc.toArray,i64 16] w fun e w'=>(∃ (q:Option Addr) (c:Nat),e = .returned (.tuple #[.slice q V.length c,i64 0])/\OwnS zaI 5 w.heap.size w' q c V)/\Bw w w':=by
 refine cofM 60 [.agg pc.toArray,i64 16] (.c .p (.s .p (.c .p .p))) Tryz.func86 ?_;obtain⟨L,hL⟩:=nm (w.heap.size);have hpc:=hP.v.size;have hthr:=hP.v.len.threads;refine⟨Unit,fun _=>⟨[(1,i64 16),(2,AtR L)],[]⟩,fun _ X=>X.heap[L]?=some (.cells pc.toArray 103 (0,0))/\Bw w X,⟨(),⟨.cons rfl (.cons (by rw [hL];rfl) .nil),rfl⟩,by rw [hL];exact hnew w _,(zba w _)⟩,?_⟩;rintro _ X ⟨f0,hbX⟩;refine brF (brF ⟨pc,hpc,zaa f0,hlt f0,cmo (znP (Jj hB hbX.size) (hP.v.below (hbX.mono hB)) (hG.c.below hbX)) ?_⟩);rintro e Y ⟨m,rfl,hm,hbY⟩;have hm0:m=0:=hm.2 hok;subst hm0;refine brF ?_;have hwY:=zst hbX hbY;have f0:=zab hbY f0;obtain⟨_,⟨p3,c3,h3,xs,hxs,hrow,hxr⟩,⟨p2,c2,h2,hinit⟩⟩:=hP;refine⟨Option Addr×Nat,fun s=>⟨[(1,i64 16),(2,AtR L),(6,.slice s.1 (ded p.init).length s.2)],[]⟩,fun s Z=>OwnS zaI 5 w.heap.size Z s.1 s.2 (ded p.init)/\Z.heap[L]?=some (.cells pc.toArray 103 (0,0))/\Bw w Z,?_,?_⟩
 ·refine⟨_,zac (zaa f0) (i:=2) (by simpa using h2),cmo (zfa ((hinit.below (hwY.mono hB)).slr (Jj hB hwY.size)) hi1 hi12 his) ?_⟩;rintro e Z ⟨⟨q,c,rfl,ho⟩,hbZ⟩;exact⟨(q,c),(cvE rfl rfl),OwnS.lower ho hwY.size,zab hbZ f0,(zst hwY hbZ)⟩
 rintro⟨q,c⟩ X ⟨ho,f0,hbX⟩;refine⟨Nat×List UInt8×Option Addr×Nat,fun s=>⟨[(1,i64 16),(2,AtR L),(6,.slice s.2.2.1 s.2.1.length s.2.2.2)],[]⟩,
  fun s Z=>zkV p.threads s.1 s.2.1=some V/\OwnS zaI 5 w.heap.size Z s.2.2.1 s.2.2.2 s.2.1/\Z.heap[L]?=some (.cells pc.toArray 103 (0,0))/\Bw w Z,fun s=>s.1,(n,ded p.init,q,c),
  (cvE rfl rfl),⟨hQ,ho,f0,hbX⟩,?_⟩
 rintro⟨k,vals,q,c⟩ X ⟨hQ,ho,f0,hbX⟩;dsimp only at hQ ho ⊢
 cases k with
 | zero=>cases hQ
 | succ k =>
 have hQ:(if zis p.threads vals=true then (if (zhF p.threads vals).length=vals.length then some vals else zkV p.threads k (zhF p.threads vals)) else none)=some V:=hQ;have hr:zis p.threads vals=true:=by
  cases h:zis p.threads vals with
  | true=>rfl
  | false=>rw [h] at hQ;cases hQ
 rw [Kc hr] at hQ;unfold zis at hr;simp only [bAT,dE,Je] at hr;obtain⟨r1,r2,r3,r4,r5⟩:=hr;refine brN (Kb (by omega)) ?_;have hq0:q=none->c=0:=fun e=>by
  rcases ho.inv with ⟨_,h,_⟩ | ⟨g,_,h,_⟩
  ·exact h
  ·rw [e] at h;cases h
 have hqb:∀ a,q=some a->a.block<X.heap.size:=fun a ha=>(zcP ho ha).2.1;refine cmo (zkT ho.row (by omega) hq0) ?_;rintro e Y ⟨⟨q1,k1,rfl,o1⟩,hbY⟩;have hwY:=zst hbX hbY;have f0Y:=zab hbY f0;have hl3:xs.length=p.threads.length:=by rw [<- hxs,Jc]
 refine⟨_,zac (zaa f0Y) (i:=3) (by simpa using h3),?_⟩;obtain⟨g,hg⟩:∃ g:List InsD->List UInt8,g=fun l=>zcc (zcJ l vals):=⟨_,rfl⟩;rw [<- hg] at r4 r5;have hnx:zhF p.threads vals=ded (vals++p.threads.flatMap g):=by unfold zhF;rw [hg]
 refine⟨Nat×Option Addr×Nat,fun s=>⟨[(1,i64 16),(2,AtR L),(6,.slice q vals.length c),(7,.slice s.2.1 (vals++(p.threads.take s.1).flatMap g).length s.2.2),(33,.slice p3 p.threads.length c3),(34,i64 p.threads.length),(35,i64 (s.1:Nat))],[]⟩,
  fun s Z=>s.1<=p.threads.length/\OwnS zaI 5 X.heap.size Z s.2.1 s.2.2 (vals++(p.threads.take s.1).flatMap g)/\Bw X Z,fun s=>p.threads.length-s.1,(0,q1,k1),
  ⟨.cons rfl (.cons rfl (.cons rfl (.cons (by rw [List.take_zero,Kk,Jk];rfl) (.cons rfl (.cons rfl (.cons rfl .nil)))))),rfl⟩,⟨Jh _,by show OwnS zaI _ _ _ _ _ (vals++(p.threads.take 0).flatMap g);rw [List.take_zero,Kk,Jk];exact o1,hbY⟩,?_⟩
 rintro⟨m,q1,k1⟩ Y ⟨hm,o1,hbY⟩;dsimp only at hm o1 ⊢;have hwY:=zst hbX hbY;have f0Y:=zab hbY f0;have hXY:=hbY.size;have lenTake:∀ j,(vals++(p.threads.take j).flatMap g).length<=12:=fun j=>by
  have e:p.threads.flatMap g=(p.threads.take j).flatMap g++(p.threads.drop j).flatMap g:=by rw [<- List.flatMap_append,List.take_append_drop]
  rw [e,<- Jr,lap] at r4;omega
 refine biE (fun hc=>?_) fun hc=>?_
 ·have hc:(m:Int)<(p.threads.length:Int):=dT hc;have hmt:m<p.threads.length:=by omega
  have hmx:m<xs.length:=by omega
  obtain⟨b3,o3,hp3,hb3,hat3⟩:=zmf (hrow.below (hwY.mono hB)) hmx;have hB2:b3<Y.heap.size:=nL hb3 (Jj hB hwY.size);have e3:some (Value.slice p3 p.threads.length c3)=some (Value.slice (some ⟨b3,o3,none⟩) p.threads.length c3):=by rw [hp3]
  subst hp3;refine⟨m,rfl,hmt,thrV xs[m],by have:=zac (hat3 m hmx) (i:=0) (v:=thrV xs[m]) rfl;exact this,?_⟩;obtain⟨hrm,hrb⟩:=hxr _ (gM hmx);have hxm:xs[m].1=p.threads[m]:=by
   have:=congrArg (fun l=>l[m]?) hxs;simp only [Jm,gE hmx,gE hmt,Ko,Jf] at this;exact this
  have hmem:=gM hmt;have ex:=hx _ hmem;have e12:=h12 _ hmem;have hxl:xs[m].1.length=p.threads[m].length:=by rw [hxm]
  have hw:=znZ (w:=Y) (l:=p.threads[m]) (dom:=vals) (q:=xs[m].2.1) (p:=q) (cap:=xs[m].2.2) (cd:=c) (by rw [<- hxm];exact (hrm.below (hwY.mono hB)).slr (Jj hB hwY.size)) (ho.row.below hbY) e12 ex (fun R hR=>(znd e12 ex R hR).1) (r3 _ hmem) (fun a ha=>nL (hrb a ha) (Jj hB hwY.size)) (fun a ha=>nL (hqb a ha) hXY) (by omega);rw [<- hxl] at hw;have eg:zcc (zcJ p.threads[m] vals)=g p.threads[m]:=by rw [hg]
  rw [eg] at hw;refine cmo hw ?_;rintro e Z ⟨⟨q2,k2,rfl,o2⟩,hbZ⟩;refine brF ?_;have tk:(p.threads.take (m+1)).flatMap g=(p.threads.take m).flatMap g++g p.threads[m]:=by
   rw [tsg hmt,List.flatMap_append,Kj,Kk,Jk]
  have l1:=lenTake m;have l2:=lenTake (m+1);rw [tk,<- Jr,lap] at l2;have hXZ:=hbY.trans (hbZ.mono hXY);have hsZ:=hbZ.size;refine zia (E:=zaI) (T:=5) (B:=X.heap.size) (l:=vals++(p.threads.take m).flatMap g) (news:=g p.threads[m]) (cap:=k1) (m:=(g p.threads[m]).length) Tryz.underlying72 k5 rfl rfl rfl (o1.below hbZ) rfl o2.row (fun e=>by
   rcases o2.inv with ⟨_,h,_⟩ | ⟨g',_,h,_⟩
   ·exact h
   ·rw [e] at h;cases h) (by omega) (by omega) (by show ((vals++(p.threads.take m).flatMap g).length+(g p.threads[m]).length)*1<=_;omega) ?_
  intro q4 k4 U oU gU hbU;rw [Jr,<- tk] at oU ⊢;exact nxI (by omega) ⟨(m+1,q4,k4),(cvE rfl rfl),⟨hmt,oU,hXZ.trans hbU⟩,zdc (by omega)⟩
 ·have hc:¬ (m:Int)<(p.threads.length:Int):=dF hc;obtain rfl:m=p.threads.length:=by omega
  rw [JF] at o1 ⊢;refine cmo (zfa o1.row (by rw [lap];omega) r4 r5) ?_;rintro e Z ⟨⟨q2,k2,rfl,o2⟩,hbZ⟩;rw [<- hnx] at o2 ⊢;have hXZ:=hbY.trans (hbZ.mono hXY);have hwZ:=zst hbX hXZ;refine biE (fun he=>?_) fun he=>?_
  ·have he:(zhF p.threads vals).length=vals.length:=by
    have:=dT he;omega
   rw [Kc he] at hQ;simp only [Jf] at hQ;subst hQ;exact⟨⟨q,c,rfl,ho.below hXZ⟩,hwZ⟩
  ·have he:¬ (zhF p.threads vals).length=vals.length:=fun e=>(dF he) (by rw [e]);rw [JZ he] at hQ;exact⟨(k,zhF p.threads vals,q2,k2),(cvE rfl rfl),⟨hQ,OwnS.lower o2 hwY.size,zab hXZ f0,hwZ⟩,Kg k⟩
end
section
variable {w:World} {bP cv B:Nat} {pc:List Value} {qv:Option Addr} {V:List UInt8} {p:Prg}
theorem zqv (fP:w.heap[bP]?=some (.cells pc.toArray 103 (0,0))) (hB:B<=w.heap.size) (hP:PrgX B w pc p) (hil:p.locs.length=p.init.length) (hi6:p.init.length<=6) (hG:GlobE w) (hV:SlR zaI w qv V) (hv1:1<=V.length) (hv12:V.length<=12) (hvs:srt8 V=true) (hd12:(ded V).length<=12)
  (ht4:p.threads.length<=4) (hT:∀ l∈p.threads,ThrQ V l) (hall:∀ k,k<=p.threads.length->zeu ((p.threads.take k).map fun l=>(zaE V l).length)<=4096) (hpb:∀ l∈p.threads,∀ P∈zaE V l,PathB p.init.length P)
  (hsome:∀ ds∈zeq ((p.threads.map (zaE V)).map List.length),(mixR p.init (zex (p.threads.map (zaE V)) ds)).isSome=true) :
  Calls Tryz.prog 87 #[At0 bP,.slice qv V.length cv] w fun e w'=>(∃ (ms:List MixX) (q:Option Addr) (c:Nat),e = .returned (.tuple #[.slice q ms.length c,.bool true])/\ms.map (·.m)=zmP p.init (p.threads.map (zaE V))/\OwnS mixE 172 w.heap.size w' q c ms/\∀ x∈ms,NInM w.heap.size (fun k=>w.heap.size<=k) w' x)/\Bw w w':=by
 refine cofM 89 [At0 bP,.slice qv V.length cv] (.c .p (.c .p (.s .p (.s .p (.c .p (.c .p (.s .p .p))))))) Tryz.func87 ?_;obtain⟨L,hL⟩:=nm (w.heap.size);have hbP:=hlt fP;refine⟨Unit,fun _=>⟨[(1,.slice qv V.length cv),(2,At0 L),(4,At0 (L+1)),(5,At0 (L+2))],[]⟩,fun _ X=>X.heap[L]?=some (.cells #[At0 bP] 169 (0,0))/\X.heap[L+1]?=some (.cells #[.slice none 0 0] 166 (0,0))/\X.heap[L+2]?=some (.cells #[.bool false] 4 (0,0))/\X.heap.size=L+3/\Bw w X,?_,?_⟩
 ·have s1:=wz w (.cells #[At0 bP] 169);have h2:=hnew (w.alloc (.cells #[At0 bP] 169)) (.cells #[.slice none 0 0] 166);have s2:=wz (w.alloc (.cells #[At0 bP] 169)) (.cells #[.slice none 0 0] 166);have h3:=hnew ((w.alloc (.cells #[At0 bP] 169)).alloc (.cells #[.slice none 0 0] 166)) (.cells #[.bool false] 4);have s3:=wz ((w.alloc (.cells #[At0 bP] 169)).alloc (.cells #[.slice none 0 0] 166)) (.cells #[.bool false] 4);rw [s1] at h2 s2;rw [s2] at h3 s3;refine⟨(),⟨.cons rfl (.cons (by rw [hL];rfl) (.cons (by rw [hL,<- s1];rfl) (.cons (by rw [hL,<- s2];rfl) .nil))),rfl⟩,?_,?_,?_,?_,?_⟩
  ·rw [hL];exact hold _ (hold _ (hnew w _))
  ·rw [hL];exact hold _ h2
  ·rw [hL];exact h3
  ·rw [hL];exact s3
  ·exact (((zba w _)).alloc (by simp) _).alloc (by simp;omega) _
 rintro _ X ⟨f0,f1,f2,sX,hbX⟩;refine⟨Unit,fun _=>⟨[(1,.slice qv V.length cv),(2,At0 L),(4,At0 (L+1)),(5,At0 (L+2)),(6,At0 (L+3))],[]⟩,fun _ Y=>MxS w.heap.size Y L bP [] none 0 [] none 0/\Bw w Y,?_,?_⟩
 ·refine⟨(),⟨.cons rfl (.cons rfl (.cons rfl (.cons rfl (.cons (by rw [<- sX];rfl) .nil)))),rfl⟩,⟨hold _ f0,hold _ f1,hold _ f2,by rw [<- sX];exact hnew X _,OwnS.nil,OwnS.nil,fun z hz=>(by cases hz),fun z hz=>(by cases hz)⟩,hbX.alloc hbX.size _⟩
 clear f0 f1 f2 sX hbX;rintro _ X ⟨hS,hbX⟩;have hP0:=hP;obtain⟨_,⟨p3,c3,h3,xs,hxs,hrow,hxr⟩,⟨p2,c2,h2,hinit⟩⟩:=hP;have hxl:xs.length=p.threads.length:=by rw [<- hxs,Jc]
 refine⟨(List TpR×Option Addr×Nat)×Option Addr×Nat,fun s=>⟨[(2,At0 L),(4,At0 (L+1)),(5,At0 (L+2)),(6,At0 (L+3)),(7,.slice s.2.1 (p.threads.map fun l=>(zaE V l).length).length s.2.2)],[]⟩,fun s Z=>MxS w.heap.size Z L bP (p.threads.map fun l=>(zaE V l).length) s.2.1 s.2.2 s.1.1 s.1.2.1 s.1.2.2/\s.1.1.map (fun z=>z.1.map (·.1))=p.threads.map (zaE V)/\Bw w Z,?_,?_⟩
 ·refine⟨_,zac (zaa hS.f0) (i:=0) rfl,_,zac (zaa (zab hbX fP)) (i:=3) (by simpa using h3),?_⟩;refine⟨Nat×(List TpR×Option Addr×Nat)×Option Addr×Nat,fun s=>⟨[(1,.slice qv V.length cv),(2,At0 L),(4,At0 (L+1)),(5,At0 (L+2)),(6,At0 (L+3)),(7,.slice s.2.2.1 ((p.threads.take s.1).map fun l=>(zaE V l).length).length s.2.2.2),(8,i64 (zeu ((p.threads.take s.1).map fun l=>(zaE V l).length):Nat)),(23,.slice p3 p.threads.length c3),(24,i64 p.threads.length),(25,i64 (s.1:Nat))],[]⟩,
   fun s Z=>s.1<=p.threads.length/\MxS w.heap.size Z L bP ((p.threads.take s.1).map fun l=>(zaE V l).length) s.2.2.1 s.2.2.2 s.2.1.1 s.2.1.2.1 s.2.1.2.2/\s.2.1.1.map (fun z=>z.1.map (·.1))=(p.threads.take s.1).map (zaE V)/\Bw w Z,fun s=>p.threads.length-s.1,(0,([],none,0),none,0),
   (cvE rfl rfl),⟨Jh _,hS,rfl,hbX⟩,?_⟩
  clear hS hbX;rintro⟨k,⟨ts,pT,cT⟩,ps,cs⟩ Z ⟨hk,hS,hz,hbZ⟩;dsimp only at hk hS hz ⊢;have hts:ts.length=k:=by
   have:=congrArg List.length hz;rw [Jc,Jc,JD] at this;omega
  refine biE (fun hc=>?_) fun hc=>?_
  ·have hc:(k:Int)<(p.threads.length:Int):=dT hc;have hkl:k<p.threads.length:=by omega
   have hkx:k<xs.length:=by omega
   have hZs:=hbZ.size;obtain⟨l,hlk⟩:∃ l,p.threads[k]=l:=⟨_,rfl⟩;have hlm:l∈p.threads:=by rw [<- hlk];exact gM hkl
   have hQ:=hT l hlm;obtain⟨b3,o3,hp3,hb3,hat3⟩:=zmf (hrow.below (hbZ.mono hB)) hkx;have hB2:b3<Z.heap.size:=by omega
   have e3:some (Value.slice p3 p.threads.length c3)=some (Value.slice (some ⟨b3,o3,none⟩) p.threads.length c3):=by rw [hp3]
   subst hp3;refine⟨k,rfl,hkl,thrV xs[k],by have:=zac (hat3 k hkx) (i:=0) (v:=thrV xs[k]) rfl;exact this,?_⟩;obtain⟨hrm,hrb⟩:=hxr _ (gM hkx);have hxm:xs[k].1=l:=by
    have:=congrArg (fun l=>l[k]?) hxs;simp only [Jm,gE hkx,gE hkl,Ko,Jf] at this;rw [this,hlk]
   have hpt:(p.threads.take (k+1))=p.threads.take k++[l]:=by rw [tsg hkl,hlk]
   refine cmo (zrx (l:=xs[k].1) (vals:=V) ((hrm.below (hbZ.mono hB)).slr (by omega)) (hV.below hbZ) hv1 hv12 hvs (by rw [hxm];exact hQ.ex) (by rw [hxm];exact hQ.ok) (hG.below hbZ) (by rw [hxm];exact znd hQ.l12 hQ.ex) (by rw [hxm];exact hQ.m) (fun a ha=>by have:=hrb a ha;omega) hd12) ?_;rintro e Y ⟨⟨rk,pk,ck,rfl,hrk,ork,onk⟩,hbY⟩;rw [hxm] at hrk;have hrk:rk.map (·.1)=zaE V l:=hrk;have hrkl:rk.length=(zaE V l).length:=by rw [<- hrk,Jc]
   have hpl:(zaE V l).length<=4096:=by rw [Jc];exact hQ.m
   have hSY:=hS.below hbY;have hpr:=hall (k+1) hkl;have hpr0:=hall k (by omega);rw [hpt,Jw] at hpr;have hpr:zeu ((p.threads.take k).map (fun l=>(zaE V l).length)++[(zaE V l).length])<=4096:=hpr;rw [zgR,<- hrkl] at hpr;obtain⟨A,hA⟩:=nm (zeu ((p.threads.take k).map fun l=>(zaE V l).length));have hA2:zeu ((p.threads.take (k+1)).map fun l=>(zaE V l).length)=A*rk.length:=by
    rw [hpt,Jw];show zeu ((p.threads.take k).map (fun l=>(zaE V l).length)++[(zaE V l).length])=_;rw [zgR,<- hrkl,hA]
   rw [<- hA] at hpr hpr0 ⊢;obtain⟨nz,hnz⟩:∃ nz:TpR,nz=(rk,pk,ck):=⟨_,rfl⟩;have hen:[Value.slice pk rk.length ck]=tpE.enc nz:=by rw [hnz];rfl
   refine⟨((A*rk.length:Nat):Int),by rw [<- Int.natCast_mul];exact zaj (by omega),brF (brN (Kb (by omega)) ⟨_,zac (zaa hSY.f3) (i:=0) rfl,⟨by decide,by decide,rfl⟩,tpE.enc nz,by rw [<- hen];rfl,?_⟩)⟩;have hb1:Bw Y (Y.alloc (.cells (tpE.enc nz).toArray 233)):=zba _ _;have hS1:=hSY.below hb1;have ork1:=ork.below hb1;have onk1:=fun x hx=>(onk x hx).same (Z:=Y.alloc (.cells (tpE.enc nz).toArray 233)) fun {α E T c q l} _ ho=>ho.below hb1;unfold opsE zc2;show SatR _ _;refine appT hS1.rk (za2 tpE nz) (by have:=hb1.size;have:=hbY.size;omega) (by omega) fun p' c' U oU gU hat1=>?_;have f0U:=zaQ hS1.f0 hS1.rk (by decide) gU;have f1U:=zaQ hS1.f1 hS1.rk (by decide) gU;have f2U:=zaQ hS1.f2 hS1.rk (by decide) gU;have f3U:=zaQ hS1.f3 hS1.rk (by decide) gU;refine zaq k232 f3U (o:=0) (v := .slice p' (ts++[nz]).length c') rfl rfl (by show 0<1;decide) rfl fun S fS gS sS=>?_;have hbZY:=hbZ.trans (hbY.mono hZs);have sY:=hbY.size;have sb1:=hb1.size;have hbU:Bw w U:=(hbZY.trans (hb1.mono (by omega))).trans (zbg hS1.rk (by omega) (Jb _) gU);have hbS:Bw w S:=hbU.trans (zan gS hbU.size (by omega));have hSS:MxS w.heap.size S L bP ((p.threads.take k).map fun l=>(zaE V l).length) ps cs (ts++[nz]) p' c':=by
    have kU:∀ {α:Type} {E:Enc α} {T cc:Nat} {r:Option Addr} {ll:List α},T≠233->T≠232->OwnS E T w.heap.size (Y.alloc (.cells (tpE.enc nz).toArray 233)) r cc ll->OwnS E T w.heap.size S r cc ll:=fun {α E T cc r ll} h1 h2 h=>zaT (zb3 h hS1.rk h1 gU) f3U h2 gS;have kB:∀ {b:Nat} {o:Obj},b≠L+3->U.heap[b]?=some o->S.heap[b]?=some o:=fun {b o} hb h=>(gS.block b (hlt h) (by simpa using hb)).trans h;have kP:∀ x:PthR,PthO w.heap.size (Y.alloc (.cells (tpE.enc nz).toArray 233)) x->PthO w.heap.size S x:=fun x hx=>hx.same fun {α E T c q l} ht ho=>kU (by rcases ht with rfl | rfl <;> decide) (by rcases ht with rfl | rfl <;> decide) ho;refine⟨kB (by omega) f0U,kB (by omega) f1U,kB (by omega) f2U,fS,kU (by decide) (by decide) hS1.own,zaT oU f3U (by decide) gS,fun z hz=>?_,fun z hz=>?_⟩
    ·rcases JM.1 hz with hz | hz
     ·exact kU (by decide) (by decide) (hS1.n1 z hz)
     ·rw [Jl.1 hz,hnz];exact kU (by decide) (by decide) (ork1.lower hZs)
    ·rcases JM.1 hz with hz | hz
     ·exact fun x hx=>kP x (hS1.n2 z hz x hx)
     ·rw [Jl.1 hz,hnz];exact fun x hx=>kP x ((onk1 x hx).mono hZs)
   clear hS1 ork1 onk1 hSY hS oU gU hat1 f0U f1U f2U f3U fS gS;refine⟨⟨by decide,by decide,rfl⟩,natE.enc rk.length,rfl,?_⟩;have hb2:Bw S (S.alloc (.cells (natE.enc rk.length).toArray 3)):=zba _ _;have hS2:=hSS.below hb2;have sbS:=hbS.size;have sb2:=hb2.size;unfold opsE zc2;show SatR _ _;refine appI hS2.own (za2 natE rk.length) (by omega) (by rw [Jc,JD];omega) fun p2' c2' V' oV gV hat2=>?_;rw [zcD] at gV;have hSV:=hS2.size oV gV;have hzz:((p.threads.take k).map fun l=>(zaE V l).length)++[rk.length]=(p.threads.take (k+1)).map fun l=>(zaE V l).length:=by
    rw [hpt,Jw,hrkl];rfl
   rw [hzz] at hSV ⊢;refine nxI (by omega) ⟨(k+1,(ts++[nz],p',c'),p2',c2'),⟨.cons rfl (.cons rfl (.cons rfl (.cons rfl (.cons rfl (.cons rfl (.cons (by show _=some (i64 (zeu ((p.threads.take (k+1)).map fun l=>(zaE V l).length):Nat));rw [hA2];rfl) (.cons rfl (.cons rfl (.cons rfl .nil))))))))),rfl⟩,⟨hkl,hSV,?_,hbS.trans ((hb2.mono sbS).trans (zbg hS2.own (by omega) (Jb _) gV))⟩,zdc (by omega)⟩;rw [hpt,Jw,Jw,hz,hnz];show _++[rk.map (·.1)]=_++[zaE V l];rw [hrk]
  ·have hc:¬ (k:Int)<(p.threads.length:Int):=dF hc;obtain rfl:k=p.threads.length:=by omega
   rw [JF] at hz hS ⊢;exact⟨((ts,pT,cT),ps,cs),(cvE rfl rfl),hS,hz,hbZ⟩
 rintro⟨⟨ts,pT,cT⟩,ps,cs⟩ X ⟨hS,hz,hbX⟩;dsimp only at hS hz ⊢;obtain⟨Q,hQ⟩:=nm (X.heap.size);refine⟨Unit,fun _=>⟨[(2,At0 L),(4,At0 (L+1)),(5,At0 (L+2)),(6,At0 (L+3)),(7,.slice ps (p.threads.map fun l=>(zaE V l).length).length cs),(13,At0 Q)],[]⟩,fun _ Z=>MxS w.heap.size Z L bP (p.threads.map fun l=>(zaE V l).length) ps cs ts pT cT/\Z.heap[Q]?=some (.cells #[.slice none 0 0] 166 (0,0))/\Z.heap.size=Q+1/\Bw w Z,?_,?_⟩
 ·refine⟨(),⟨.cons rfl (.cons rfl (.cons rfl (.cons rfl (.cons rfl (.cons (by rw [hQ];rfl) .nil))))),rfl⟩,hS.below ((zba X _)),by rw [hQ];exact hnew X _,by rw [hQ];exact wz _ _,hbX.alloc hbX.size _⟩
 have hQw:w.heap.size+4<=Q:=by have:=hlt hS.f3;omega
 clear hS hbX hQ;clear X;rintro _ X ⟨hS,fQ,sX,hbX⟩;obtain⟨Ts,hTs⟩:=nm (p.threads.map (zaE V));have hTl:Ts.length=p.threads.length:=by rw [hTs,Jc]
 have htl:ts.length=p.threads.length:=by have:=congrArg List.length hz;simpa using this
 have hsz:(p.threads.map fun l=>(zaE V l).length)=Ts.map List.length:=by rw [hTs,List.map_map];rfl
 rw [hsz] at hS ⊢;rw [<- hTs] at hsome hz ⊢;have hsl1:(Ts.map List.length).length<=1000:=by rw [Jc];omega
 have hsl2:∀ n∈Ts.map List.length,n<=1000000:=fun n hn=>by
  rw [hTs,List.map_map] at hn;obtain⟨l,hl,rfl⟩:=JR.1 hn;have:=(hT l hl).m;show ((zcJ l (ded V)).map ze0).length<=_;rw [Jc];omega
 have hmemT:∀ z∈ts,∀ x∈z.1,PathB p.init.length x.1:=fun z hz' x hx=>by
  have h1:z.1.map (·.1)∈Ts:=by rw [<- hz];exact JR.2 ⟨z,hz',rfl⟩
  rw [hTs] at h1;obtain⟨l,hl,he⟩:=JR.1 h1;exact hpb l hl x.1 (by rw [he];exact JR.2 ⟨x,hx,rfl⟩)
 refine cmo zpx ?_;rintro e V1 ⟨rfl,fo,sV1,hbV1⟩;have hI:=zsc fo (hS.own.row.below hbV1) (fun a ha=>by have:=(zau hS.own ha).2.1;omega) hsl1 hsl2;have hS1:=hS.below hbV1;have hb1:Bw w V1:=zst hbX hbV1;have hG0:Gath mixE 172 166 Q V1.heap.size Q V1 (NInM w.heap.size) [] (fun k=>k=Q) V1 :=
  ⟨Jb _,rfl,fun k hk=>by omega,⟨none,0,zab hbV1 fQ,OwnS.nil,fun a h=>by cases h⟩,fun x hx=>(by cases hx),Ja _ _⟩
 obtain⟨f,hf⟩:∃ f:List Nat->Option MixD,f=fun ds=>mixR p.init (zex Ts ds):=⟨_,rfl⟩;have hmix:zmP p.init Ts=(zeq (Ts.map List.length)).filterMap f:=by rw [hf];rfl
 refine zfe (sgOk _) rfl (lb := #[At0 X.heap.size]) rfl rfl hI (Jb _) (fun k hk=>⟨?_,rfl⟩) (fun pre vs W ⟨l,q,_,h,_⟩=>by rw [h];rfl) (by decide)
  (fun k=>k=Q) (fun pre F Y=>∃ ms,(ms.map (·.m)=pre.filterMap f/\ms.length<=pre.length)/\Gath mixE 172 166 Q V1.heap.size Q V1 (NInM w.heap.size) ms F Y) (fun _ _ _ _=>False) (fun k hk=>?_) (Gath.iter (ziL _) (by omega)) (fun ex=>⟨fun _ _ _ _ h=>h.elim,fun _ _ _ _ h=>h.elim⟩) ⟨[],⟨rfl,Jh _⟩,hG0⟩ ?_ ?_ ?_
 ·rcases hk with (rfl | ⟨a,ha,rfl⟩) | h
  ·omega
  ·have:=(zau hS.own ha).2.1;omega
  ·exact h.elim
 ·rcases hk with rfl | ⟨a,ha,rfl⟩
  ·omega
  ·obtain⟨_,_,cur,hc⟩:=zau hS.own ha;intro e;rw [e,fQ] at hc;simp at hc
 ·rintro yl pre ds vs F Y hyl hpre hJ0 ⟨l,qd,hlast,rfl,hsl,hcel⟩ hfy ⟨lo,hlo⟩;have hdx:ds=l:=by simpa using hlast
  subst hdx;refine⟨rfl,F,KeepsG.refl _ _,hJ0,?_⟩;rintro O Y2 hY2 ⟨ms,⟨hms,hml⟩,hG2⟩;have hslY:SlR natE Y2 qd ds:=by
   rw [hY2];refine zbf hsl fun a ha=>zai fun e=>?_;obtain⟨cur,hcur⟩:=hcel a ha;rw [e,hlo] at hcur
   cases hcur
  obtain⟨hdl,hdlt⟩:=zni (hpre.subset (List.mem_append_right _ (Jl.2 rfl)));have hsome1:=hsome ds (hpre.subset (List.mem_append_right _ (Jl.2 rfl)));rw [Jc] at hdl;have hY2s:=hG2.size;have old:∀ {k:Nat} {ob:Obj},k<Q->V1.heap[k]?=some ob->Y2.heap[k]?=some ob:=fun {k ob} hk h=>(hG2.old.block k hk).trans h;have g0:=old (by omega) hS1.f0;have g3:=old (by omega) hS1.f3;have kR:∀ {α:Type} {E:Enc α} {T cc:Nat} {r:Option Addr} {ll:List α},T≠166->OwnS E T w.heap.size X r cc ll->OwnS E T w.heap.size Y2 r cc ll:=fun {α E T cc r ll} hT h=>h.same fun a ha=>by
   have hq:a.block≠Q:=fun e=>by
    obtain⟨_,_,cur,hc⟩:=zau h ha;rw [e,fQ] at hc;simp at hc;exact hT hc.2.symm
   have:=(zau h ha).2.1;exact (hG2.old.block _ (by omega)).trans (hbV1.block _ this)
  have rkY:=kR (by decide) hS.rk;have n1Y:=fun z hz=>kR (by decide) (hS.n1 z hz);have n2Y:∀ z∈ts,∀ x∈z.1,PthO w.heap.size Y2 x:=fun z hz x hx=>(hS.n2 z hz x hx).same fun {α E T c q l} ht ho=>kR (by rcases ht with rfl | rfl <;> decide) ho;have fPY:Y2.heap[bP]?=some (.cells pc.toArray 103 (0,0)):=old (by omega) ((hb1.block bP hbP).trans fP);have hbwY:Bw w Y2:=hb1.trans (hG2.old.mono (by omega));refine⟨Nat×List PthR×Option Addr×Nat,fun s=>⟨[(2,At0 L),(6,At0 (L+3)),(13,At0 Q),(15,.slice s.2.2.1 s.2.1.length s.2.2.2),(58,.slice qd ds.length ds.length),(59,i64 ds.length),(60,i64 (s.1:Nat))],[]⟩,
   fun s Z=>s.1<=ds.length/\OwnS pthE 241 Y2.heap.size Z s.2.2.1 s.2.2.2 s.2.1/\s.2.1.map (·.1)=zex (Ts.take s.1) (ds.take s.1)/\s.2.1.length=s.1/\(∀ x∈s.2.1,∃ z∈ts,x∈z.1)/\Bw Y2 Z,fun s=>ds.length-s.1,(0,[],none,0),
   (cvE rfl rfl),⟨Jh _,OwnS.nil,by simp [zex],rfl,fun x hx=>(by cases hx),Ja _ _⟩,?_⟩
  rintro⟨k,Cs,pC,cC⟩ Z ⟨hk,oC,hCs,hCl,hCm,hbZ⟩;dsimp only at hk oC hCs hCl hCm ⊢;have hZs:=hbZ.size;refine biE (fun hc=>?_) fun hc=>?_
  ·have hc:(k:Int)<(ds.length:Int):=dT hc;have hkl:k<ds.length:=by omega
   have hkt:k<ts.length:=by omega
   obtain⟨z,hzk⟩:∃ z,ts[k]=z:=⟨_,rfl⟩;have hzm:z∈ts:=by rw [<- hzk];exact gM hkt
   have hkT:k<Ts.length:=by omega
   have hzT:Ts[k]=z.1.map (·.1):=by
    have h1:Ts[k]?=some (z.1.map (·.1)):=(by rw [<- hz,Jm,gE hkt,hzk];rfl);rw [gE hkT] at h1;exact Jg h1
   obtain⟨d,hd⟩:∃ d,ds[k]=d:=⟨_,rfl⟩;have hdz:d<z.1.length:=by
    have:=hdlt k (Ts[k].length) d (by rw [Jm,gE hkT];rfl) (by rw [gE hkl,hd]);rw [hzT,Jc] at this;exact this
   obtain⟨x,hx⟩:∃ x,z.1[d]=x:=⟨_,rfl⟩;have hxm:x∈z.1:=by rw [<- hx];exact gM hdz
   have hpick:zex (Ts.take (k+1)) (ds.take (k+1))=zex (Ts.take k) (ds.take k)++[x.1]:=by
    rw [tsg hkT,tsg hkl,hd,hzT,zgT _ _ _ _ (by rw [JD,JD];omega),Jm,gE hdz,hx];rfl
   obtain⟨bD,oD,hpD,hlD,hatD⟩:=(hslY.below hbZ).at hkl;obtain⟨bT,oT,hpT,hlT,hatT⟩:=(rkY.below hbZ).row.at hkt;obtain⟨bz,oz,hpz,hlz,hatz⟩:=((n1Y z hzm).below hbZ).row.at hdz;subst hpD;subst hpT;refine⟨k,rfl,hkl,i64 d,by have:=zac (hatD k hkl) (i:=0) (v:=i64 d) (by rw [hd];rfl);exact this,_,zac (zaa (zab hbZ g3)) (i:=0) rfl,k,rfl,hkt,.slice z.2.1 z.1.length z.2.2,by have:=zac (hatT k hkt) (i:=0) (v := .slice z.2.1 z.1.length z.2.2) (by rw [hzk];rfl);exact this,?_⟩;rw [hpz];refine⟨d,rfl,hdz,pthE.enc x,pthE.len x,by rw [<- hx];exact hatz d hdz,hlz,?_⟩;refine⟨⟨by decide,by decide,rfl⟩,pthE.enc x,zcS (pthE.len x) rfl,?_⟩;have hb2:Bw Z (Z.alloc (.cells (pthE.enc x).toArray 241)):=zba _ _;have sb2:=hb2.size;unfold opsE zc2;show SatR _ _;refine appP (oC.below hb2) (za2 pthE x) (by omega) (by omega) fun p' c' U oU gU hat1=>nxI (by omega) ⟨(k+1,Cs++[x],p',c'),(cvE rfl rfl),⟨hkl,oU,by rw [Jw,hCs,hpick];rfl,by rw [lap,hCl];rfl,fun y hy=>?_,hbZ.trans ((hb2.mono hZs).trans (zbg (oC.below hb2) (by omega) (Jb _) gU))⟩,zdc (by omega)⟩;rcases JM.1 hy with hy | hy
   ·exact hCm y hy
   ·rw [Jl.1 hy];exact⟨z,hzm,hxm⟩
  have hc:¬ (k:Int)<(ds.length:Int):=dF hc;obtain rfl:k=ds.length:=by omega
  rw [JF,Jy (by omega)] at hCs;obtain⟨q1,k1,q2,k2,q3,k3,q4,k4,hvs,_⟩:=hP0.v.h;have hpc1:pc[1]?=some (.slice q1 p.init.length k1):=by rw [hvs,<- hil];rfl
  have hZw:w.heap.size<=Z.heap.size:=by have:=hbwY.size;omega
  refine⟨_,zac (zaa (zab hbZ g0)) (i:=0) rfl,?_⟩;obtain⟨mx,hmx⟩:∃ mx,mixR p.init (Cs.map (·.1))=some mx:=by
   rw [hCs];exact Option.isSome_iff_exists.1 hsome1
  have hfd:f ds=some mx:=by rw [hf,<- hmx,hCs]
  refine cmo (zlw (zab hbZ fPY) hpc1 h2 ((hinit.below (((zst hbwY hbZ)).mono hB)).slr (by omega)) hi6 oC.row (fun x hx=>?_) (fun x hx=>?_) (by omega)) ?_
  ·obtain⟨z,hz1,hx1⟩:=hCm x hx;obtain⟨o1,o2,o3,o4⟩:=n2Y z hz1 x hx1;refine⟨fun a ha=>?_,(o1.below hbZ).row,(o2.below hbZ).row,(o3.below hbZ).row,(o4.below hbZ).row⟩;rcases ha with ha | ha | ha
   ·exact (zau (o2.below hbZ) ha).2.1
   ·exact (zau (o3.below hbZ) ha).2.1
   ·exact (zau (o4.below hbZ) ha).2.1
  ·obtain⟨z,hz1,hx1⟩:=hCm x hx;exact hmemT z hz1 x hx1
  rintro e U ⟨⟨vs,hres⟩,hbU⟩;rw [hmx] at hres;obtain⟨rfl,x1,x2,x3,x4,y1,y2,y3,y4,xs',ys',hvs',m1,m2,m3,m4,m5,m6,m7,m8⟩:=hres;obtain⟨nx,hnx⟩:∃ nx:MixX,nx=⟨mx,x1,y1,x2,y2,x3,y3,x4,y4,xs',ys'⟩:=⟨_,rfl⟩;have hen:vs=mixE.enc nx:=by rw [hvs',hnx];rfl
  have hvl:vs.length=336:=by rw [hen];exact mixE.len nx
  have hv1:vs.all Value.oneCell'=true:=by rw [hen];exact zkv nx
  have hUs:=hbU.size;refine zak (X:=U) (v := .agg vs.toArray) k172 hvl zbX hv1 fun V' hbV fV sV=>?_;have fV:V'.heap[U.heap.size]?=some (.cells vs.toArray 172 (0,0)):=fV;refine brF ?_;have hbY2V:Bw Y2 V':=(hbZ.trans (hbU.mono hZs)).trans (hbV.mono (by omega));obtain⟨pr,cr,h4,h5,h6⟩:=hG2.row;refine⟨_,zac (zaa (zab hbY2V h4)) (i:=0) rfl,vs,hvl,zaa fV,hlt fV,⟨by decide,by decide,zbX⟩,mixE.enc nx,by rw [<- hen];exact zcS hvl zbX,?_⟩;have hpl:pre.length<1000000000:=by
   obtain⟨t,ht⟩:=hpre;have h7:(pre++[ds]++t).length=zbc (Ts.map List.length).reverse:=by
    rw [ht];unfold zeq;rw [Jc,Kf]
   have h8:zbc (Ts.map List.length).reverse<=4096:=by
    have h9:=hall p.threads.length (Jb _);rw [JF,hsz] at h9;rw [zmn];exact h9
   simp only [lap,Jq] at h7;omega
  have hnw:∀ (G:Nat->Prop) (S:World),(∀ k,Y2.heap.size<=k->k<V'.heap.size->S.heap[k]?=V'.heap[k]?)->(∀ k,Y2.heap.size<=k->k<V'.heap.size->G k)->NInM w.heap.size G S nx:=by
   intro G S hs hg;have kp:∀ {α:Type} {E:Enc α} {T cc:Nat} {r:Option Addr} {ll:List α},OwnS E T Z.heap.size U r cc ll->RowIn E T w.heap.size G S r cc ll:=fun {α E T cc r ll} h=>by
    have ol:∀ a,r=some a->Y2.heap.size<=a.block/\a.block<V'.heap.size:=fun a ha=>⟨by have:=(zau h ha).1;omega,by have:=(zau h ha).2.1;omega⟩;exact⟨OwnS.lower ((h.below hbV).same fun a ha=>hs _ (ol a ha).1 (ol a ha).2) hZw,fun a ha=>hg _ (ol a ha).1 (ol a ha).2⟩
   rw [hnx];exact⟨m3,m6,kp m1,kp m2,kp m4,fun y hy=>kp (m5 y hy),kp m7,fun y hy=>kp (m8 y hy)⟩
  obtain⟨v,Y5,hrun,S,hrun2,F',hG',hK',hFF'⟩:=hG2.step (P:=Tryz.prog) (ty:=166) (cap1:=1) (ziL _) (by decide) Tryz.underlying166 k172 rfl rfl (by show _=336;exact zbX) k166 rfl (by omega) (Jb _) hbY2V nx (by omega) (by show (ms.length+1)*2488<=_;omega) hnw pr cr h4;unfold opsE zc2;refine SatR.mk hrun (SatR.mk hrun2 ⟨F',⟨_,⟨?_,by rw [lap,lap];show ms.length+1<=pre.length+1;omega⟩,hG'⟩,hK'⟩);rw [Jw,List.filterMap_append,hms];show _++[nx.m]=_++List.filterMap f [ds];rw [show List.filterMap f [ds]=[mx] by rw [List.filterMap_cons,hfd];rfl,hnx]
 ·rintro D F Y hD hfD ⟨ms,⟨hms,hml⟩,hG⟩ hdef;obtain⟨pr,cr,h4,h5,h6⟩:=hG.row;have hYs:=hG.size;have old:∀ {k:Nat} {ob:Obj},k<Q->V1.heap[k]?=some ob->Y.heap[k]?=some ob:=fun {k ob} hk h=>(hG.old.block k hk).trans h;have g1:=old (by omega) hS1.f1;have g2:=old (by omega) hS1.f2;refine⟨_,zac (zaa h4) (i:=0) rfl,zaq k166 g1 (o:=0) (v := .slice pr ms.length cr) rfl rfl (by show 0<1;decide) rfl fun Z1 fZ1 gZ1 sZ1=>zaq k4 ((gZ1.block (L+2) (hlt g2) (by simp)).trans g2) (o:=0) (v := .bool true) rfl rfl (by show 0<1;decide) rfl fun Z2 fZ2 gZ2 sZ2=>?_⟩;have k2:∀ k,k<Y.heap.size->k≠L+1->k≠L+2->Z2.heap[k]?=Y.heap[k]?:=fun k hk n1 n2=>(gZ2.block k (by rw [sZ1];exact hk) (by simpa using n2)).trans (gZ1.block k hk (by simpa using n1));refine⟨_,rfl,(k2 D (hlt hdef) (by omega) (by omega)).trans hdef,?_⟩;have f2':=(gZ2.block (L+1) (hlt fZ1) (by simp)).trans fZ1;have kp:∀ a:Addr,a.block≠L+1->a.block≠L+2->F a.block->a.block<Y.heap.size->(Z2.putObj D (.deferred none)).heap[a.block]?=Y.heap[a.block]?:=fun a n1 n2 h2 h3=>(zai fun e=>by rw [<- e] at hfD;exact hfD h2).trans (k2 _ h3 n1 n2);have hwY:=hb1.trans (hG.old.mono (by omega));have b2:=(hwY.trans (zan gZ1 hwY.size (by omega))).trans (zan gZ2 (by have:=hwY.size;omega) (by omega));have ne:∀ {α:Type} {E:Enc α} {T B' cc:Nat} {r:Option Addr} {ll:List α},T≠166->T≠4->OwnS E T B' Y r cc ll->∀ a,r=some a->a.block≠L+1/\a.block≠L+2:=fun {α E T B' cc r ll} t1 t2 h a ha=>by
   obtain⟨_,_,cur,hc⟩:=zau h ha;refine⟨fun e=>?_,fun e=>?_⟩
   ·rw [e,g1] at hc;simp at hc;exact t1 hc.2.symm
   ·rw [e,g2] at hc;simp at hc;exact t2 hc.2.symm
  refine⟨.slice pr ms.length cr,zac (zaa ((zai (by omega)).trans f2')) (i:=0) rfl,.bool true,zac (zaa ((zai (by omega)).trans fZ2)) (i:=0) rfl,⟨ms,pr,cr,rfl,by rw [hms,hmix],?_,fun x hx=>?_⟩,zbj b2 (by omega) _⟩
  ·exact OwnS.lower (h5.same fun a ha=>kp a (ne (by decide) (by decide) h5 a ha).1 (ne (by decide) (by decide) h5 a ha).2 (h6 a ha) (zau h5 ha).2.1) (by omega)
  ·exact (hG.nest x hx).same fun {α E T c q l} t1 t2 t3 hr=>⟨hr.own.same fun a ha=>kp a (ne t2 t3 hr.own a ha).1 (ne t2 t3 hr.own a ha).2 (hr.inF a ha) (zau hr.own ha).2.1,fun a ha=>(zau hr.own ha).1⟩
 ·rintro D ex pre F Y hD hfD hpre h;exact h.elim
end
end Go.Proofs.YtnadlhpkpnfmbaaGreatDoor
