/- Contracts of functions, and plain facts, for the law that the last text of this claim proves. -/
import Derived.Test.YtakcdebpklffiaaGreatDoorQ1
import Derived.Test.YtakcdebpklffiaaGreatDoorQ2
import Derived.Test.YtakcdebpklffiaaGreatDoorQ4
set_option linter.unusedSimpArgs false
set_option linter.unusedVariables false
namespace Go.Vc
open Go.RowKit
def DrawA (S:Sig) (ops:Array Oper) (E:Env) (w:Wd) (K:Env->Wd->Prop) (QP:List PanicEntry->Wd->Prop):Prop :=
 ∃(X:List Nat) (T:OT),(zjF (zb8 S.τ X ops) ops ops.size (Array.replicate ops.size false) T&&ops.all (fun o=>jf o.op))=true/\zfZ S ops.toList X QP T E w.drew K
inductive Mn where
 | m (m:Mk)
 | s (a b:Mn)
 | c (a b:Mn)
 | d (a b:Mn)
 | t
 | i
section
variable{S:Sig}
def zjE (rec_:Array Bool->OT->Bool) (ind:Nat->Nat->Bool) (ops:Array Oper) (listed:Array Bool) (T:OT):Bool :=
 !(Region.ready .any ops listed).isEmpty&&(Region.ready .any ops listed).all fun i =>
   (OT.firsts ind i T).any fun T'=>rec_ (listed.setIfInBounds i true) T'
def zfj (ind:Nat->Nat->Bool) (ops:Array Oper):Nat->Array Bool->OT->Bool
 | 0,listed,T=>(Region.ready .any ops listed).isEmpty&&(match T with | .nil=>true | _=>false)
 | m+1,listed,.op k T'=>(match (Region.ready .any ops listed).contains k&&zeb ind ops k listed with
  | true=>zfj ind ops m (listed.setIfInBounds k true) T'
  | false=>zjE (zfj ind ops m) ind ops listed (.op k T'))
 | m+1,listed,.nil=>zjE (zfj ind ops m) ind ops listed .nil
 | m+1,listed,.alt x y=>zjE (zfj ind ops m) ind ops listed (.alt x y)
section
variable{ind:Nat->Nat->Bool}{ops:Array Oper}
theorem zaB{rec_:Array Bool->OT->Bool}{L:Array Bool}{T:OT}(h:zjE rec_ ind ops L T=true):(Region.ready .any ops L).isEmpty=false/\∀i∈Region.ready .any ops L,∃T',T'∈OT.firsts ind i T/\rec_ (L.setIfInBounds i true) T'=true:=by
 simp only[zjE,bAT,KC,Qa,Qb] at h;exact⟨h.1,fun i a=>h.2 i a⟩
theorem zm0:∀(m:Nat) (L:Array Bool) (T:OT),zdI ops L->zfj ind ops (m+1) L T=true ->
  (Region.ready .any ops L).isEmpty=false/\∀i∈Region.ready .any ops L,∃T',T'∈OT.firsts ind i T/\zfj ind ops m (L.setIfInBounds i true) T'=true:=by
 intro m
 induction m with
 | zero =>
  intro L T f h
  cases T with
  | nil=>exact zaB h
  | alt x y=>exact zaB h
  | op k T' =>
   simp only[zfj] at h
   split at h
   ·rename_i a;simp only[bAT,JP,dE] at a;refine⟨Jp.2 (Kw a.1),fun i b=>?_⟩;by_cases e:i=k
    ·subst e;exact⟨T',by simp[OT.firsts],h⟩
    ·have:=zax b e;simp only[bAT,Qi] at h;rw[h.1] at this;cases this
   ·exact zaB h
 | succ m ih =>
  intro L T f h
  cases T with
  | nil=>exact zaB h
  | alt x y=>exact zaB h
  | op k T' =>
   unfold zfj at h
   split at h
   ·rename_i a;simp only[bAT,JP,dE] at a;refine⟨Jp.2 (Kw a.1),fun i b=>?_⟩;by_cases e:i=k
    ·subst e;exact⟨T',by simp[OT.firsts],h⟩
    ·obtain⟨T'',j,g⟩:=(ih _ T' (zcb f a.1) h).2 i (zax b e);refine⟨.op k T'',?_,?_⟩
     ·have:¬k=i:=fun d=>e d.symm;rw[OT.firsts,Gc this,Gd (zjq f a.2 a.1 b e)];exact Kg j
     ·have c:k∈Region.ready .any ops (L.setIfInBounds i true):=zax a.1 (fun d=>e d.symm);have l:((Region.ready .any ops (L.setIfInBounds i true)).contains k&&zeb ind ops k (L.setIfInBounds i true))=true:=by
       simp only[bAT,JP,dE];exact⟨c,zgn a.2⟩
      unfold zfj;rw[l];rw[ziK];exact g
   ·exact zaB h
theorem zeP:∀(m:Nat) (L:Array Bool) (T:OT),zdI ops L->zfj ind ops m L T=true->zjF ind ops m L T=true
 | 0,L,T,_,h=>h
 | m+1,L,T,hc,h=>by
  obtain⟨e,c⟩:=zm0 m L T hc h;simp only[zjF,bAT,KC,Qa,Qb];refine⟨e,fun i a=>?_⟩;obtain⟨T',b,d⟩:=c i a;exact⟨T',b,zeP m _ T' (zcb hc a) d⟩
end
theorem DrawA.treeR{S:Sig}{ops:Array Oper}{E:Env}{w:Wd}{K:Env->Wd->Prop}{QP:List PanicEntry->Wd->Prop}(X:List Nat)(T:OT)
  (h:(zfj (zb8 S.τ X ops) ops ops.size (Array.replicate ops.size false) T&&ops.all (fun o=>jf o.op))=true) (k:zfZ S ops.toList X QP T E w.drew K):DrawA S ops E w K QP :=
 ⟨X,T,by
  simp only[bAT] at h ⊢;refine⟨zeP _ _ _ (fun j o b=>?_) h.1,h.2⟩;by_cases a:j<ops.size <;> simp[a] at b,k⟩
theorem DrawE.treeR{S:Sig}{ops:Array Oper}{E:Env}{w:Wd}{K:Env->Wd->Prop}{QP:List PanicEntry->Wd->Prop}(X:List Nat)(T:OT)
  (h:(zfj (zb8 S.τ X ops) ops ops.size (Array.replicate ops.size false) T&&ops.all (fun o=>jf o.op))=true) (k:zfZ S ops.toList X QP T E w.drew K):DrawE S ops E w K QP :=
 .inr (.inr ⟨X,T,by
  simp only[bAT] at h ⊢;refine⟨zeP _ _ _ (fun j o b=>?_) h.1,h.2⟩;by_cases a:j<ops.size <;> simp[a] at b,k⟩)
end
end Go.Vc
namespace Go.Proofs.YtakcdebpklffiaaGreatDoor
open Go.Vc Go.RowKit Go.Sei
abbrev zaD (X:Wd) (b:Nat) (x:ExD) (q:OA) (c:Nat) (S:List Value):Prop:=X.heap[b]?=some (.cells (exC x q c++S).toArray 92 (0,0))
abbrev zR:Value := .slice none 0 0
theorem zb4{X:Wd}{b:Nat}{x:ExD}{q:OA}{c:Nat}{S:List Value}(h:zaD X b x q c S):X.cell? ⟨b,0+0,none⟩=some (.slice q x.ev.length c):=zc (za h) (zsa x q c S)
theorem jL{X:Wd}{b:Nat}{x:ExD}{q:OA}{c:Nat}{S:List Value}(h:zaD X b x q c S){i:Nat}{v:Value}(hi:S[i]?=some v):X.cell? ⟨b,333+i,none⟩=some v:=by
 have:=zc (za h) (zfp (x:=x) (q:=q) (c:=c) hi);rw[UH] at this;exact this
theorem zoT{w Z:Wd}{q:OA}{ev:List Ev}{b:Nat}(hl:SlR evE w q ev)(hqb:∀a,q=some a->a.block≠b)(g:w.grownBy Z (some b)):SlR evE Z q ev:=by
 rcases hl with h | ⟨e,o,f,d,j⟩
 ·exact .inl h
 ·have:=hqb _ f;exact .inr ⟨e,o,f,nL d g.size,fun i k=>qC (g.block e d (by simpa using this)) (j i k)⟩
theorem j7(p:OA)(n c:Nat):(Value.slice p n c).ownBlock=p.map Addr.block:=by cases p <;> rfl
theorem zfX{α:Type}{E:Enc α}{T B cap:Nat}{w:Wd}{p:OA}{l:List α}(h:OwnS E T B w p cap l){k T':Nat}{cur:Array Value}{fr:Nat×Nat}(hk:w.heap[k]?=some (.cells cur T' fr))(hT:T'≠T):some k≠p.map Addr.block:=fun e=>by
 cases hp:p with
 | none=>rw [hp] at e;cases e
 | some a =>
  rw[hp] at e;simp only[QU,KS] at e;obtain⟨_,_,f,d⟩:=zx h hp;rw[<- e,hk] at d;simp at d;exact hT d.2.1
theorem SatR.mono{α:Type}{r:Result α}{K K':α->Wd->Prop}(h:SatR r K)(k:∀v w,K v w->K' v w):SatR r K':=by
 obtain⟨v,a,e,h⟩:=h;exact⟨v,a,e,k v a h⟩
section
variable{α β:Type}{E:Enc α}{E':Enc β}{T T' B B' c c':Nat}{A C:Wd}{p q:OA}{l:List α}{l':List β}
theorem zcy(h:OwnS E T B A q c l)(g:A.grownBy C (p.map Addr.block))(hne:∀a b',p=some a->q=some b'->a.block≠b'.block):OwnS E T B C q c l :=
 h.same fun b' d=>g.block _ (zx h d).2.1 fun e=>by
  cases hp:p with
  | none=>rw [hp] at e;cases e
  | some a =>
   rw[hp] at e;simp only[QU,KS] at e;exact hne a b' hp d e.symm
theorem jK(h:OwnS E T B A q c l)(hp:OwnS E' T' B' A p c' l')(hT:T≠T')(g:A.grownBy C (p.map Addr.block)):OwnS E T B C q c l :=
 zcy h g fun a n j i e=>by
  obtain⟨_,_,m,f⟩:=zx h i;obtain⟨_,_,k,d⟩:=zx hp j;rw[e,f] at d;simp at d;exact hT d.2
theorem qc{b:Nat}{cur:Array Value}{fr:Nat×Nat}(h:OwnS E T B A q c l)(hb:A.heap[b]?=some (.cells cur T' fr))(hT:T≠T')(g:A.grownBy C (some b)):OwnS E T B C q c l :=
 h.same fun i a=>g.block _ (zx h a).2.1 fun e=>by
  obtain⟨_,_,f,d⟩:=zx h a;simp only[KS] at e;rw[e,hb] at d;simp at d;exact hT d.2.1.symm
theorem qb{b:Nat}{cur:Array Value}{fr:Nat×Nat}(hb:A.heap[b]?=some (.cells cur T' fr))(h:OwnS E T B A q c l)(hT:T'≠T)(g:A.grownBy C (q.map Addr.block)):C.heap[b]?=some (.cells cur T' fr) :=
 (g.block b (hlt hb) (zfX h hb hT)).trans hb
theorem qB{n:Nat}(hp:OwnS E T B A p c l)(hn:n<=A.heap.size)(hB:n<=B)(g:A.grownBy C (p.map Addr.block)):Below n A C:=by
 refine⟨g.os,g.tape,g.output,g.size,fun j d=>g.block j (by omega) fun e=>?_⟩
 cases h:p with
 | none=>rw [h] at e;cases e
 | some a =>
  rw[h] at e;simp only[QU,KS] at e;have:=(zx hp h).1;omega
end
theorem znf{B c k:Nat}{V1:Wd}{p:OA}{l:List Nat}{a:Addr}(ho:OwnS zB 3 B V1 p c l)(ha:zF V1 a ([k].flatMap zB.enc))(hB:B<=V1.heap.size)(hl:l.length<=100000){K:Value->Wd->Prop}
  (h:∀p' c' w',OwnS zB 3 B w' p' c' (l++[k])->V1.grownBy w' (Value.slice p l.length c).ownBlock->(∀a,p'=some a->p=some a\/a.block=V1.heap.size)->K (.slice p' (l++[k]).length c') w') :
  SatR ((Builtin.append_ #[89,89] 89 #[.slice p l.length c,.slice (some a) 1 1]).run PG V1) K :=
 qQ (E:=zB) (T:=3) (B:=B) (l:=l) (news:=[k]) (cap:=c) (m:=1) Tryz.underlying89 k3 rfl rfl rfl ho rfl ha hB (by omega) (by show(l.length+1)*8<=_;omega) fun p' c' w' d e _ f=>h p' c' w' d e f
theorem ztR{B c:Nat}{V1:Wd}{p:OA}{l:List zaj}{y:zaj}{a:Addr}(ho:OwnS qF 89 B V1 p c l)(ha:zF V1 a ([y].flatMap qF.enc))(hB:B<=V1.heap.size)(hl:l.length<=100000){K:Value->Wd->Prop}
  (h:∀p' c' w',OwnS qF 89 B w' p' c' (l++[y])->V1.grownBy w' (Value.slice p l.length c).ownBlock->(∀a,p'=some a->p=some a\/a.block=V1.heap.size)->K (.slice p' (l++[y]).length c') w') :
  SatR ((Builtin.append_ #[90,90] 90 #[.slice p l.length c,.slice (some a) 1 1]).run PG V1) K :=
 qQ (E:=qF) (T:=89) (B:=B) (l:=l) (news:=[y]) (cap:=c) (m:=1) Tryz.underlying90 k89 rfl rfl rfl ho rfl ha hB (by omega) (by show(l.length+1)*24<=_;omega) fun p' c' w' d e _ f=>h p' c' w' d e f
section
variable{b:Nat}{x:ExD}{q:OA}{c locs:Nat}{w:Wd}
theorem zm7(hm:zaD w b x q c [zR,zR,zR])(hl:SlR evE w q x.ev)(hqb:∀a,q=some a->a.block≠b)(hn:x.ev.length<=48)(hlo:locs<=100)(hv:∀e∈x.ev,e.k=1\/e.k=2->e.l.toNat<locs) :
  Calls PG 131 #[At0 b,i64 locs] w fun e w'=>e = .returned (.tuple #[])/\(∃(p1 p2 p3:OA) (c1 c2 c3:Nat) (xs ys:List zaj),
   zaD w' b x q c [.slice p1 (jM x locs).rs.length c1,.slice p2 xs.length c2,.slice p3 ys.length c3]/\OwnS zB 3 w.heap.size w' p1 c1 ((jM x locs).rs.map (·.1))/\xs.map (·.1)=(jM x locs).rs.map (·.2)/\OwnS qF 89 w.heap.size w' p2 c2 xs/\(∀y∈xs,OwnS zB 3 w.heap.size w' y.2.1 y.2.2 y.1) /\
   ys.map (·.1)=(jM x locs).wr/\OwnS qF 89 w.heap.size w' p3 c3 ys/\∀y∈ys,OwnS zB 3 w.heap.size w' y.2.1 y.2.2 y.1)/\w.grownBy w' (some b):=by
 refine qg 114 [At0 b,i64 locs] (.c .p (.c .p .p)) Tryz.func131 ?_;obtain⟨B,hB⟩:=nm (w.heap.size);have hbw:=hlt hm;obtain⟨W0,hW0⟩:∃W0:List zaj,W0=List.replicate locs ([],none,0):=⟨_,rfl⟩;have hW0l:W0.length=locs:=by rw[hW0,JI]
 refine⟨Unit,fun _=>⟨[(0,At0 b)],[]⟩,fun _ X=>zaD X b x q c [zR,zR,.slice (some ⟨B,0,none⟩) locs locs]/\RowLH X B W0/\w.grownBy X (some b)/\B<X.heap.size,?_,?_⟩
 ·refine zhl Tryz.underlying90 k89 rfl rfl (by decide) locs (by show 24*_<=_;omega) (by omega) fun X fX hbX sX=>?_;have ez:∀n,zby [Value.slice none 0 0] n=zc4 (List.replicate n ([],none,0)):=fun n=>by
   induction n with
   | zero=>rfl
   | succ n ih =>
    show Value.slice none 0 0::zby [Value.slice none 0 0] n=slV ([],none,0)::zc4 (List.replicate n ([],none,0));rw[<- ih];rfl
  have fX:X.heap[w.heap.size]?=some (.cells (zby [Value.slice none 0 0] locs).toArray 89 (0,0)):=fX;rw[ez,<- hW0,<- hB] at fX;have hmX:=(hbX.block b hbw).trans hm;refine zn k90 hmX (o:=0+335) (v := .slice (some ⟨w.heap.size,0,none⟩) locs locs) rfl rfl (by rw[lap,zM];decide) rfl fun Y fY gY sY=>?_;rw[show 0+335=333+2 from rfl,zh3] at fY;exact⟨(),(cvE rfl rfl),by rw[hB];exact fY,(gY.block B (hlt fX) (by simp;omega)).trans fX,zf (zi hbX) gY,by rw[sY,sX,hB];omega⟩
 rintro _ X ⟨hmX,fX,gX,sX⟩;refine⟨List zaj,fun W=>⟨[(0,At0 b)],[]⟩,fun W Z=>zaD Z b x q c [zR,zR,.slice (some ⟨B,0,none⟩) locs locs]/\RowLH Z B W/\w.grownBy Z (some b)/\W.length=locs/\W.map (·.1)=(jM x locs).wr/\Rows B Z W/\∀y∈W,y.1.length<=48/\∀a∈y.1,a<x.ev.length,?_,?_⟩
 ·refine⟨_,zb4 hmX,?_⟩;refine⟨Nat×List zaj,fun s=>⟨[(0,At0 b),(20,.slice q x.ev.length c),(21,i64 x.ev.length),(22,i64 (s.1:Nat))],[]⟩,
   fun s Z=>s.1<=x.ev.length/\zaD Z b x q c [zR,zR,.slice (some ⟨B,0,none⟩) locs locs]/\RowLH Z B s.2/\w.grownBy Z (some b)/\s.2.length=locs/\zl8 s.1 (x.ev.drop s.1) (s.2.map (·.1))=(jM x locs).wr/\Rows B Z s.2/\(∀y∈s.2,y.1.length<=s.1/\∀a∈y.1,a<x.ev.length),fun s=>x.ev.length-s.1,(0,W0),
   (cvE rfl rfl),⟨UP _,hmX,fX,gX,hW0l,by rw[hW0,List.map_replicate];rfl,by rw[hW0];exact Rows.nils _ _ _,fun y hy=>by rw[hW0] at hy;rw[Jq hy];exact⟨UP _,fun a ha=>by cases ha⟩⟩,?_⟩
  clear hmX fX gX sX;rintro⟨k,W⟩ Z ⟨hk,hmZ,fZ,gZ,hWl,hacc,hR,hL⟩;dsimp only at hk fZ hWl hacc hR hL ⊢;refine biE (fun hc=>?_) fun hc=>?_
  ·have hc:(k:Int)<(x.ev.length:Int):=dT hc;have hkl:k<x.ev.length:=by omega
   obtain⟨e,he⟩:∃e,x.ev[k]=e:=⟨_,rfl⟩;have hem:e∈x.ev:=by rw[<- he];exact gM hkl
   rw[<- JA hkl,he] at hacc;have hacc:zl8 (k+1) (x.ev.drop (k+1)) (if e.k=2 then(W.map (·.1)).set e.l.toNat ((W.map (·.1)).getD e.l.toNat []++[k]) else W.map (·.1))=(jM x locs).wr:=hacc;have hlZ:=zoT hl hqb gZ;obtain⟨bp,op,hqe,hlp,hat⟩:=hlZ.at hkl;subst hqe;refine⟨k,rfl,hkl,evE.enc e,rfl,by rw[<- he];exact hat k hkl,hlp,?_⟩;refine zr (X:=Z) (v := .agg (evE.enc e).toArray) k80 rfl rfl (Qa.2 fun u hu=>evE.one e u hu) fun Y hbY fY sY=>?_;have gY:=zf gZ (zi (row:=some b) hbY);have hmY:=zb hbY hmZ;have fBY:=zb hbY fZ;have hRY:Rows B Y W:=hR.same fun y hy a ha=>hbY.block _ (zx (hR.own y hy) ha).2.1;have fY:Y.heap[Z.heap.size]?=some (.cells (evE.enc e).toArray 80 (0,0)):=fY;refine⟨u8 e.k,zc (za fY) (i:=1) rfl,biE (fun h=>?_) fun h=>?_⟩
   ·have h:e.k=2:=qm.1 (dT h);rw[Gd h] at hacc;have hll:=hv e hem (.inr h);obtain⟨l,hle⟩:∃l,e.l.toNat=l:=⟨_,rfl⟩;rw[hle] at hacc hll;have hlW:l<W.length:=(by omega);obtain⟨y,hy⟩:∃y,W[l]?=some y:=⟨_,gE hlW⟩;have hym:y∈W:=JS hy;have hgd:(W.map (·.1)).getD l []=y.1:=(by rw[gDe,KM,hy];rfl);rw[hgd] at hacc;have hyo:=hRY.own y hym;have hylen:=(hL y hym).1;have hrl:(zc4 W)[l]?=some (slV y):=(by unfold zc4;rw[KM,hy];rfl);have hd:Bw Y Y.drew:=(UR _ Y).drew;have hba:Below Y.drew.heap.size Y.drew (Y.drew.alloc (.cells (zB.enc k).toArray 3)):=zba _ _;have sa:(Y.drew.alloc (.cells (zB.enc k).toArray 3)).heap.size=Y.heap.size+1:=wz _ _;have nB:=zfX hyo fBY (by decide);have nb:=zfX hyo hmY (by decide);have fin:∀p2 c2 V,OwnS zB 3 B V p2 c2 (y.1++[k])->(Y.drew.alloc (.cells (zB.enc k).toArray 3)).grownBy V (Value.slice y.2.1 y.1.length y.2.2).ownBlock->(∀a,p2=some a->y.2.1=some a\/a.block=(Y.drew.alloc (.cells (zB.enc k).toArray 3)).heap.size) ->
      (zaD V b x (some ⟨bp,op,none⟩) c [zR,zR,.slice (some ⟨B,0,none⟩) locs locs]/\V.heap[Z.heap.size]?=some (.cells (evE.enc e).toArray 80 (0,0))) /\
      SatR ((storeVar 89 ⟨B,0+l*1,none⟩ (slV (y.1++[k],p2,c2))).run PG V) fun _ S=>zaD S b x (some ⟨bp,op,none⟩) c [zR,zR,.slice (some ⟨B,0,none⟩) locs locs]/\RowLH S B (W.set l (y.1++[k],p2,c2))/\w.grownBy S (some b)/\(W.set l (y.1++[k],p2,c2)).length=locs/\zl8 (k+1) (x.ev.drop (k+1)) ((W.set l (y.1++[k],p2,c2)).map (·.1))=(jM x locs).wr/\Rows B S (W.set l (y.1++[k],p2,c2))/\∀z∈W.set l (y.1++[k],p2,c2),z.1.length<=k+1/\∀a∈z.1,a<x.ev.length:=by
     intro p2 c2 V oV gV hat2;obtain⟨U,hU⟩:=nm (Y.drew.alloc (.cells (zB.enc k).toArray 3));rw[<- hU] at gV hba sa hat2;have hbYU:Bw Y U:=hd.trans hba;rw[j7] at gV;have gYV:Y.grownBy V (y.2.1.map Addr.block):=zf (zi hbYU) gV;have fBV:RowLH V B W:=(gYV.block B (hlt fBY) nB).trans fBY;have hmV:=(gYV.block b (hlt hmY) nb).trans hmY;have nE:=zfX hyo fY (by decide);refine⟨⟨hmV,(gYV.block _ (hlt fY) nE).trans fY⟩,zn k89 fBV (o:=0+l*1) (v:=slV (y.1++[k],p2,c2)) rfl rfl (by unfold zc4;rw[QD];omega) rfl fun S fS gS sS=>?_⟩;have fS2:RowLH S B (W.set l (y.1++[k],p2,c2)):=by
      rw[UO,UH] at fS;refine fS.trans ?_;unfold zc4;rw[Uy]
     have hRV:Rows B V (W.set l (y.1++[k],p2,c2)):=hRY.set (y:=(y.1++[k],p2,c2)) hy oV gYV fun a ha=>(hat2 a ha).imp id fun h=>by omega
     have hRS:Rows B S (W.set l (y.1++[k],p2,c2)):=hRV.same fun z hz a ha=>gS.block _ (zx (hRV.own z hz) ha).2.1 fun e=>by
      have h1:=zfX (hRV.own z hz) fBV (by decide);rw[ha] at h1;exact h1 e.symm
     have gyb:w.grownBy S (some b):=by
      have hBb:B≠b:=(by omega);have e1:Below B Y S:=by
       refine Below.trans ⟨gYV.os,gYV.tape,gYV.output,gYV.size,fun j hj=>gYV.block j (by have:=hlt fBY;omega) fun e=>?_⟩ (zm gS (by have:=hlt fBV;omega) (UN _))
       cases hp:y.2.1 with
       | none=>rw [hp] at e;cases e
       | some a =>
        rw[hp] at e;simp only[QU,KS] at e;have:=(zx hyo hp).1;omega
      rw[hB] at e1;exact qO gY e1
     refine⟨(gS.block b (hlt hmV) (by simp;omega)).trans hmV,fS2,gyb,by rw[QF];exact hWl,?_,hRS,fun z hz=>?_⟩
     ·rw[Uy];exact hacc
     ·rcases List.mem_or_eq_of_mem_set hz with h | h
      ·exact⟨by have:=(hL z h).1;omega,(hL z h).2⟩
      ·rw[h];refine⟨by simp only[lap,Qj,QE];omega,fun a ha=>?_⟩;rcases QH.1 ha with ha | ha
       ·exact(hL y hym).2 a ha
       ·rw[Kv.1 ha];exact hkl
    refine DrawE.treeR [16,18] (.op 0 (.op 1 (.op 2 (.op 4 (.op 6 (.op 7 (.op 8 (.op 9 (.op 10 (.op 11 (.op 12 (.op 13 (.op 14 (.alt (.op 15 (.alt (.op 16 (.alt (.op 3 (.op 5 (.op 17 (.op 18 (.nil))))) (.op 5 (.op 3 (.op 17 (.op 18 (.nil))))))) (.alt (.op 3 (.alt (.op 16 (.op 5 (.op 17 (.op 18 (.nil))))) (.op 5 (.op 16 (.op 17 (.op 18 (.nil))))))) (.op 5 (.alt (.op 16 (.op 3 (.op 17 (.op 18 (.nil))))) (.op 3 (.op 16 (.op 17 (.op 18 (.nil)))))))))) (.alt (.op 3 (.alt (.op 15 (.alt (.op 16 (.op 5 (.op 17 (.op 18 (.nil))))) (.op 5 (.op 16 (.op 17 (.op 18 (.nil))))))) (.op 5 (.op 15 (.op 16 (.op 17 (.op 18 (.nil)))))))) (.op 5 (.alt (.op 15 (.alt (.op 16 (.op 3 (.op 17 (.op 18 (.nil))))) (.op 3 (.op 16 (.op 17 (.op 18 (.nil))))))) (.op 3 (.op 15 (.op 16 (.op 17 (.op 18 (.nil))))))))))))))))))))))) (by kernel_rfl) ⟨_,jL (hdr hmY) (i:=2) rfl,u8 e.l,zc (za (hdr fY)) (i:=2) rfl,l,by rw[<- hle],hll,?_⟩;refine⟨slV y,by have:=zc (za (hdr fBY)) (i:=l*1) (v:=slV y) (by rw[UO];exact hrl);exact this,?_⟩;have hsz:x.ev.length-(k+1)<x.ev.length-k:=(by omega);have app:∀{K:Value->Wd->Prop},(∀p2 c2 V,((zaD V b x (some ⟨bp,op,none⟩) c [zR,zR,.slice (some ⟨B,0,none⟩) locs locs]/\V.heap[Z.heap.size]?=some (.cells (evE.enc e).toArray 80 (0,0))) /\
      SatR ((storeVar 89 ⟨B,0+l*1,none⟩ (slV (y.1++[k],p2,c2))).run PG V) fun _ S=>zaD S b x (some ⟨bp,op,none⟩) c [zR,zR,.slice (some ⟨B,0,none⟩) locs locs]/\RowLH S B (W.set l (y.1++[k],p2,c2))/\w.grownBy S (some b)/\(W.set l (y.1++[k],p2,c2)).length=locs/\zl8 (k+1) (x.ev.drop (k+1)) ((W.set l (y.1++[k],p2,c2)).map (·.1))=(jM x locs).wr/\Rows B S (W.set l (y.1++[k],p2,c2))/\∀z∈W.set l (y.1++[k],p2,c2),z.1.length<=k+1/\∀a∈z.1,a<x.ev.length)->K (slV (y.1++[k],p2,c2)) V) ->
      SatR ((Builtin.append_ #[89,89] 89 #[slV y,.slice (some ⟨Y.drew.heap.size,0,none⟩) 1 1]).run PG (Y.drew.alloc (.cells (zB.enc k).toArray 3))) K:=fun{K} h =>
     qQ (E:=zB) (T:=3) (B:=B) (l:=y.1) (news:=[k]) (cap:=y.2.2) (m:=1) Tryz.underlying89 k3 rfl rfl rfl (hyo.below (hd.trans hba)) rfl (qq zB k) (by have:=gY.size;omega) (by omega) (by show(y.1.length+1)*8<=_;omega) fun p2 c2 V oV gV hbV hat2=>h p2 c2 V (fin p2 c2 V oV gV hat2)
    have hmA:=z6 (.cells (zB.enc k).toArray 3 (0,0)) (hdr hmY);have fEA:=z6 (.cells (zB.enc k).toArray 3 (0,0)) (hdr fY);refine UV ?_ (UV ?_ ?_)
    ·refine⟨⟨by decide,by decide,rfl⟩,zB.enc k,rfl,hba,UV ?_ (UV ?_ ?_)⟩
     ·refine app fun p2 c2 V ⟨⟨hmV,fEV⟩,hst⟩=>UV ?_ ?_
      ·refine⟨_,jL hmV (i:=2) rfl,u8 e.l,zc (za fEV) (i:=2) rfl,l,by rw[<- hle],hll,?_⟩;refine SatR.mono hst ?_;rintro _ S hS;exact nxI (by omega) ⟨(k+1,W.set l (y.1++[k],p2,c2)),(cvE rfl rfl),⟨hkl,hS⟩,hsz⟩
      ·refine⟨u8 e.l,zc (za fEV) (i:=2) rfl,_,jL hmV (i:=2) rfl,l,by rw[<- hle],hll,?_⟩;refine SatR.mono hst ?_;rintro _ S hS;exact nxI (by omega) ⟨(k+1,W.set l (y.1++[k],p2,c2)),(cvE rfl rfl),⟨hkl,hS⟩,hsz⟩
     ·refine⟨_,jL hmA (i:=2) rfl,UV ?_ ?_⟩
      ·refine app fun p2 c2 V ⟨⟨hmV,fEV⟩,hst⟩=>⟨u8 e.l,zc (za fEV) (i:=2) rfl,l,by rw[<- hle],hll,?_⟩;refine SatR.mono hst ?_;rintro _ S hS;exact nxI (by omega) ⟨(k+1,W.set l (y.1++[k],p2,c2)),(cvE rfl rfl),⟨hkl,hS⟩,hsz⟩
      ·refine⟨u8 e.l,zc (za fEA) (i:=2) rfl,app fun p2 c2 V ⟨⟨hmV,fEV⟩,hst⟩=>⟨l,by rw[<- hle],hll,?_⟩⟩;refine SatR.mono hst ?_;rintro _ S hS;exact nxI (by omega) ⟨(k+1,W.set l (y.1++[k],p2,c2)),(cvE rfl rfl),⟨hkl,hS⟩,hsz⟩
     ·refine⟨u8 e.l,zc (za fEA) (i:=2) rfl,UV ?_ ?_⟩
      ·refine app fun p2 c2 V ⟨⟨hmV,fEV⟩,hst⟩=>⟨_,jL hmV (i:=2) rfl,l,by rw[<- hle],hll,?_⟩;refine SatR.mono hst ?_;rintro _ S hS;exact nxI (by omega) ⟨(k+1,W.set l (y.1++[k],p2,c2)),(cvE rfl rfl),⟨hkl,hS⟩,hsz⟩
      ·refine⟨_,jL hmA (i:=2) rfl,app fun p2 c2 V ⟨⟨hmV,fEV⟩,hst⟩=>⟨l,by rw[<- hle],hll,?_⟩⟩;refine SatR.mono hst ?_;rintro _ S hS;exact nxI (by omega) ⟨(k+1,W.set l (y.1++[k],p2,c2)),(cvE rfl rfl),⟨hkl,hS⟩,hsz⟩
    ·refine⟨_,jL (hdr hmY) (i:=2) rfl,UV ?_ ?_⟩
     ·refine⟨⟨by decide,by decide,rfl⟩,zB.enc k,rfl,hba,UV ?_ ?_⟩
      ·refine app fun p2 c2 V ⟨⟨hmV,fEV⟩,hst⟩=>⟨u8 e.l,zc (za fEV) (i:=2) rfl,l,by rw[<- hle],hll,?_⟩;refine SatR.mono hst ?_;rintro _ S hS;exact nxI (by omega) ⟨(k+1,W.set l (y.1++[k],p2,c2)),(cvE rfl rfl),⟨hkl,hS⟩,hsz⟩
      ·refine⟨u8 e.l,zc (za fEA) (i:=2) rfl,app fun p2 c2 V ⟨⟨hmV,fEV⟩,hst⟩=>⟨l,by rw[<- hle],hll,?_⟩⟩;refine SatR.mono hst ?_;rintro _ S hS;exact nxI (by omega) ⟨(k+1,W.set l (y.1++[k],p2,c2)),(cvE rfl rfl),⟨hkl,hS⟩,hsz⟩
     ·refine⟨u8 e.l,zc (za (hdr fY)) (i:=2) rfl,⟨by decide,by decide,rfl⟩,zB.enc k,rfl,hba,app fun p2 c2 V ⟨⟨hmV,fEV⟩,hst⟩=>⟨l,by rw[<- hle],hll,?_⟩⟩;refine SatR.mono hst ?_;rintro _ S hS;exact nxI (by omega) ⟨(k+1,W.set l (y.1++[k],p2,c2)),(cvE rfl rfl),⟨hkl,hS⟩,hsz⟩
    ·refine⟨u8 e.l,zc (za (hdr fY)) (i:=2) rfl,UV ?_ ?_⟩
     ·refine⟨⟨by decide,by decide,rfl⟩,zB.enc k,rfl,hba,UV ?_ ?_⟩
      ·refine app fun p2 c2 V ⟨⟨hmV,fEV⟩,hst⟩=>⟨_,jL hmV (i:=2) rfl,l,by rw[<- hle],hll,?_⟩;refine SatR.mono hst ?_;rintro _ S hS;exact nxI (by omega) ⟨(k+1,W.set l (y.1++[k],p2,c2)),(cvE rfl rfl),⟨hkl,hS⟩,hsz⟩
      ·refine⟨_,jL hmA (i:=2) rfl,app fun p2 c2 V ⟨⟨hmV,fEV⟩,hst⟩=>⟨l,by rw[<- hle],hll,?_⟩⟩;refine SatR.mono hst ?_;rintro _ S hS;exact nxI (by omega) ⟨(k+1,W.set l (y.1++[k],p2,c2)),(cvE rfl rfl),⟨hkl,hS⟩,hsz⟩
     ·refine⟨_,jL (hdr hmY) (i:=2) rfl,⟨by decide,by decide,rfl⟩,zB.enc k,rfl,hba,app fun p2 c2 V ⟨⟨hmV,fEV⟩,hst⟩=>⟨l,by rw[<- hle],hll,?_⟩⟩;refine SatR.mono hst ?_;rintro _ S hS;exact nxI (by omega) ⟨(k+1,W.set l (y.1++[k],p2,c2)),(cvE rfl rfl),⟨hkl,hS⟩,hsz⟩
   ·have h:¬e.k=2:=fun e'=>dF h (by rw[e'];rfl);rw[Gc h] at hacc;exact nxI (by omega) ⟨(k+1,W),(cvE rfl rfl),⟨hkl,hmY,fBY,gY,hWl,hacc,hRY,fun y hy=>⟨by have:=(hL y hy).1;show _<=k+1;omega,(hL y hy).2⟩⟩,zdc (by omega)⟩
  ·have hc:¬(k:Int)<(x.ev.length:Int):=dF hc;obtain rfl:k=x.ev.length:=by omega
   rw[Qd] at hacc;exact⟨W,(cvE rfl rfl),hmZ,fZ,gZ,hWl,hacc,hR,fun y hy=>⟨by have:=(hL y hy).1;omega,(hL y hy).2⟩⟩
 rintro W X ⟨hmX,fX,gX,hWl,hwr,hR,hWb⟩;refine⟨_,zb4 hmX,?_⟩;obtain⟨RS,hRS⟩:=nm ((jM x locs).rs);have hRSg:RS=zgR x.ev (W.map (·.1)) 0 x.ev:=by rw[hRS,hwr];rfl
 rw[<- hRS,<- hwr];have sX:B<X.heap.size:=hlt fX;refine⟨Nat×List (Nat×List Nat)×List zaj×(OA×Nat)×(OA×Nat),fun s=>⟨[(0,At0 b),(53,.slice q x.ev.length c),(54,i64 x.ev.length),(55,i64 (s.1:Nat))],[]⟩,
  fun s Z=>s.1<=x.ev.length/\RS=s.2.1++zgR x.ev (W.map (·.1)) s.1 (x.ev.drop s.1)/\s.2.1.length<=s.1/\s.2.2.1.map (·.1)=s.2.1.map (·.2)/\zaD Z b x q c [.slice s.2.2.2.1.1 (s.2.1.map (·.1)).length s.2.2.2.1.2,.slice s.2.2.2.2.1 s.2.2.1.length s.2.2.2.2.2,.slice (some ⟨B,0,none⟩) locs locs]/\RowLH Z B W/\w.grownBy Z (some b)/\(∀y∈W,OwnS zB 3 B Z y.2.1 y.2.2 y.1)/\(∀y∈s.2.2.1,OwnS zB 3 B Z y.2.1 y.2.2 y.1) /\
   OwnS zB 3 B Z s.2.2.2.1.1 s.2.2.2.1.2 (s.2.1.map (·.1))/\OwnS qF 89 B Z s.2.2.2.2.1 s.2.2.2.2.2 s.2.2.1/\(∀a,s.2.2.2.1.1=some a->∀y,y∈s.2.2.1\/y∈W->∀b',y.2.1=some b'->a.block≠b'.block)/\(∀a,s.2.2.2.2.1=some a->a.block≠B),
  fun s=>x.ev.length-s.1,(0,[],[],(none,0),(none,0)),
  (cvE rfl rfl),⟨UP _,hRSg,UN _,rfl,hmX,fX,gX,hR.own,fun y hy=>(by cases hy),OwnS.nil,OwnS.nil,fun a ha=>(by cases ha),fun a ha=>(by cases ha)⟩,?_⟩
 clear hmX fX gX hR sX;rintro⟨k,dn,xs,⟨p1,c1⟩,⟨p2,c2⟩⟩ Z ⟨hk,hspec,hdl,hxs,hmZ,fZ,gZ,hWo,hxo,ho1,ho2,hd1,hd2⟩;dsimp only at hk hspec hdl hxs hmZ hxo ho1 ho2 hd1 hd2 ⊢;refine biE (fun hc=>?_) fun hc=>?_
 ·have hc:(k:Int)<(x.ev.length:Int):=dT hc;have hkl:k<x.ev.length:=by omega
  obtain⟨e,he⟩:∃e,x.ev[k]=e:=⟨_,rfl⟩;have hem:e∈x.ev:=by rw[<- he];exact gM hkl
  rw[<- JA hkl,he] at hspec;have hlZ:=zoT hl hqb gZ;obtain⟨bp,op,hqe,hlp,hat⟩:=hlZ.at hkl;subst hqe;refine⟨k,rfl,hkl,evE.enc e,rfl,by rw[<- he];exact hat k hkl,hlp,?_⟩;refine zr (X:=Z) (v := .agg (evE.enc e).toArray) k80 rfl rfl (Qa.2 fun u hu=>evE.one e u hu) fun Y hbY fY sY=>?_;have gY:=zf gZ (zi (row:=some b) hbY);have hmY:=zb hbY hmZ;have fBY:=zb hbY fZ;have fY:Y.heap[Z.heap.size]?=some (.cells (evE.enc e).toArray 80 (0,0)):=fY;refine⟨u8 e.k,zc (za fY) (i:=1) rfl,biE (fun h=>?_) fun h=>?_⟩
  ·have h:¬e.k=1:=fun e'=>by
    rw[e'] at h;exact Ge h (by decide)
   have hspec:RS=dn++(if e.k=1 then(k,((W.map (·.1)).getD e.l.toNat []).filter fun w=>decide ((x.ev.getD w ev0).v=e.v))::zgR x.ev (W.map (·.1)) (k+1) (x.ev.drop (k+1)) else zgR x.ev (W.map (·.1)) (k+1) (x.ev.drop (k+1))):=hspec;rw[Gc h] at hspec;exact nxI (by omega) ⟨(k+1,dn,xs,(p1,c1),(p2,c2)),(cvE rfl rfl),⟨hkl,hspec,by show dn.length<=k+1;omega,hxs,hmY,fBY,gY,fun y hy=>(hWo y hy).below hbY,fun y hy=>(hxo y hy).below hbY,ho1.below hbY,ho2.below hbY,hd1,hd2⟩,zdc (by omega)⟩
  ·have h1:decide ((e.k.toNat:Int)=1)=true:=by simpa using h
   have h:e.k=1:=qm.1 (dT h1);obtain⟨l,hle⟩:∃l,e.l.toNat=l:=⟨_,rfl⟩;have hll:l<locs:=by rw[<- hle];exact hv e hem (.inl h)
   have hlW:l<W.length:=by omega
   obtain⟨y,hy⟩:∃y,W[l]?=some y:=⟨_,gE hlW⟩;have hym:y∈W:=JS hy;have hgd:(W.map (·.1)).getD l []=y.1:=by rw[gDe,KM,hy];rfl
   obtain⟨P,hP⟩:∃P:Nat->Bool,P=fun w=>decide ((x.ev.getD w ev0).v=e.v):=⟨_,rfl⟩;have hspec:RS=dn++(k,y.1.filter P)::zgR x.ev (W.map (·.1)) (k+1) (x.ev.drop (k+1)):=by
    have hspec:RS=dn++(if e.k=1 then(k,((W.map (·.1)).getD e.l.toNat []).filter fun w=>decide ((x.ev.getD w ev0).v=e.v))::zgR x.ev (W.map (·.1)) (k+1) (x.ev.drop (k+1)) else zgR x.ev (W.map (·.1)) (k+1) (x.ev.drop (k+1))):=hspec;rw[Gd h,hle,hgd,<- hP] at hspec;exact hspec
   obtain⟨hy48,hyb⟩:=hWb y hym;have hyo:=(hWo y hym).below hbY;have hrl:(zc4 W)[l]?=some (slV y):=by unfold zc4;rw[KM,hy];rfl
   have hd:Bw Y Y.drew:=(UR _ Y).drew;refine DrawE.ord [] [0,1,2,3,4,5,6,7,8,9] (by kernel_rfl) ⟨_,jL (hdr hmY) (i:=2) rfl,u8 e.l,zc (za (hdr fY)) (i:=2) rfl,l,by rw[<- hle],hll,?_⟩;refine⟨slV y,by have:=zc (za (hdr fBY)) (i:=l*1) (v:=slV y) (by rw[UO];exact hrl);exact this,?_⟩;obtain⟨M,hM⟩:=nm (Y.heap.size);refine⟨Nat×List Nat×OA×Nat,fun s=>⟨[(0,At0 b),(6,i64 (k:Nat)),(7,At0 Z.heap.size),(8,.slice s.2.2.1 s.2.1.length s.2.2.2),(53,.slice (some ⟨bp,op,none⟩) x.ev.length c),(54,i64 x.ev.length),(55,i64 (k:Nat)),(70,slV y),(71,i64 y.1.length),(72,i64 (s.1:Nat))],[]⟩,
    fun s V=>s.1<=y.1.length/\s.2.1=(y.1.take s.1).filter P/\OwnS zB 3 M V s.2.2.1 s.2.2.2 s.2.1/\Below M Y V,fun s=>y.1.length-s.1,(0,[],none,0),
    (cvE rfl rfl),⟨UP _,rfl,OwnS.nil,by rw[hM];exact hd⟩,?_⟩
   rintro⟨i,fr,p3,c3⟩ V ⟨hi,hfr,hoV,hbV⟩;dsimp only at hi hfr hoV ⊢;have sV:=hbV.size;have hmV:=(hbV.block b (by have:=hlt hmY;omega)).trans hmY;have fEV:=(hbV.block Z.heap.size (by have:=hlt fY;omega)).trans fY;have fBV:=(hbV.block B (by have:=hlt fBY;omega)).trans fBY;have hbYV:Bw Y V:=by rw[hM] at hbV;exact hbV
   have hyoV:=hyo.below hbYV;have hfl:fr.length<=i:=by rw[hfr];exact UC (JH _ _) (by rw[Ql];exact Nat.min_le_left _ _)
   refine biE (fun hc=>?_) fun hc=>?_
   ·have hc:(i:Int)<(y.1.length:Int):=dT hc;have hil:i<y.1.length:=(by omega);have hyi:=hyb y.1[i] (gM hil);have hlV:=zoT hl hqb (qO gY (hbV.mono (by have:=gY.size;omega)));obtain⟨by_,oy,hye,hly,haty⟩:=hyoV.row.at hil;obtain⟨bq,oq,hqe,hlq,hatq⟩:=hlV.at hyi;simp only[KS,Uj,UX] at hqe;obtain⟨rfl,rfl⟩:=hqe;have htk:(y.1.take (i+1)).filter P=fr++(if P y.1[i] then[y.1[i]] else[]):=by
     rw[tsg hil,Kq,hfr]
     cases hPi:P y.1[i] <;> simp[hPi]
    have hPv:P y.1[i]=decide (x.ev[y.1[i]].v=e.v):=by
     rw[hP];show decide ((x.ev.getD y.1[i] ev0).v=e.v)=_;rw[gDe,gE hyi];rfl
    rw[show slV y = .slice (some ⟨by_,oy,none⟩) y.1.length y.2.2 by unfold slV;rw[hye]];refine⟨i,rfl,hil,i64 y.1[i],zc (haty i hil) (i:=0) rfl,DrawE.ord [] [0,1,2,3,4,5,6,7,8,9,10,11] (by kernel_rfl) ⟨_,zb4 (hdr hmV),y.1[i],rfl,hyi,?_⟩⟩;have hdV:Bw V V.drew:=(UR _ V).drew;refine⟨u8 x.ev[y.1[i]].v,by have:=zc (zt hdV (hatq y.1[i] hyi)) (i:=3) (v:=u8 x.ev[y.1[i]].v) rfl;exact this,u8 e.v,zc (za (hdr fEV)) (i:=3) rfl,biE (fun hq=>?_) fun hq=>?_⟩
    ·have hq:x.ev[y.1[i]].v=e.v:=qm.1 (dT hq);rw[hPv,Uh hq,Gd rfl] at htk;refine⟨⟨by decide,by decide,rfl⟩,zB.enc y.1[i],rfl,?_⟩;have hba:Below V.drew.heap.size V.drew (V.drew.alloc (.cells (zB.enc y.1[i]).toArray 3)):=zba _ _;refine qQ (E:=zB) (T:=3) (B:=M) (l:=fr) (news:=[y.1[i]]) (cap:=c3) (m:=1) Tryz.underlying89 k3 rfl rfl rfl (hoV.below (hdV.trans hba)) rfl (qq zB y.1[i]) (by have:=hba.size;have:=hdV.size;omega) (by omega) (by show(fr.length+1)*8<=_;omega) ?_;intro p4 c4 U oU gU hbU hat4;refine nxI (by omega) ⟨(i+1,fr++[y.1[i]],p4,c4),(cvE rfl rfl),⟨hil,htk.symm,oU,?_⟩,zdc (by omega)⟩;exact((hbV.trans (hdV.mono (by omega))).trans (hba.mono (by have:=hdV.size;omega))).trans hbU
    ·have hq:¬x.ev[y.1[i]].v=e.v:=fun e'=>dF hq (by rw[e']);rw[hPv,QX hq] at htk;simp only[Kn,UZ,QA] at htk;exact nxI (by omega) ⟨(i+1,fr,p3,c3),(cvE rfl rfl),⟨hil,htk.symm,hoV.below hdV,hbV.trans (hdV.mono (by omega))⟩,zdc (by omega)⟩
   ·have hc:¬(i:Int)<(y.1.length:Int):=dF hc;obtain rfl:i=y.1.length:=(by omega);rw[Qn] at hfr;have hbMB:B<=M:=(by have:=hlt fBY;omega);have hxlen:xs.length=dn.length:=by
     have:=UY List.length hxs;simpa using this
    refine⟨.slice p1 (dn.map (·.1)).length c1,jL hmV (i:=0) rfl,⟨by decide,by decide,rfl⟩,zB.enc k,rfl,?_⟩;obtain⟨V1,hV1⟩:=nm (V.alloc (.cells (zB.enc k).toArray 3));have hb1:Bw V V1:=(by rw[hV1];exact(zba _ _));have s1:V1.heap.size=V.heap.size+1:=(by rw[hV1];exact wz _ _);have hZV:Bw Z V:=zst hbY hbYV;have hZV1:Bw Z V1:=zst hZV hb1;have ho1V:=ho1.below hZV1;rw[<- hV1];refine znf ho1V (by rw[hV1];exact qq zB k) (by omega) (by rw[QD];omega) fun q1 d1 U oU gU hat1=>?_;rw[j7] at gU;have hmV1:=zb hb1 hmV;have hmU:=qb hmV1 ho1V (by decide) gU;have fBU:=qb (zb hb1 fBV) ho1V (by decide) gU;refine zn k89 hmU (o:=0+333) (v := .slice q1 (dn.map (·.1)++[k]).length d1) rfl rfl (by rw[lap,zM];show 333<336;decide) rfl fun S fS gS sS=>?_;rw[show 0+333=333+0 from rfl,zh3] at fS;have fS:zaD S b x (some ⟨bp,op,none⟩) c [.slice q1 (dn.map (·.1)++[k]).length d1,.slice p2 xs.length c2,.slice (some ⟨B,0,none⟩) locs locs]:=fS;have p1M:∀a,p1=some a->a.block<M:=fun a ha=>by have:=(zx ho1 ha).2.1;have:=hbY.size;omega
    have hoU:OwnS zB 3 M U p3 c3 fr:=zcy (hoV.below hb1) gU fun a b' ha hb e=>by have:=p1M a ha;have:=(zx hoV hb).1;omega
    have hWU:∀y∈W,OwnS zB 3 B U y.2.1 y.2.2 y.1:=fun y hy=>zcy ((hWo y hy).below hZV1) gU fun a b' ha hb=>hd1 a ha y (.inr hy) b' hb;have hxU:∀y∈xs,OwnS zB 3 B U y.2.1 y.2.2 y.1:=fun y hy=>zcy ((hxo y hy).below hZV1) gU fun a b' ha hb=>hd1 a ha y (.inl hy) b' hb;have ho2U:=jK (ho2.below hZV1) ho1V (by decide) gU;have hoS:=qc hoU hmU (by decide) gS;have hWS:∀y∈W,OwnS zB 3 B S y.2.1 y.2.2 y.1:=fun y hy=>qc (hWU y hy) hmU (by decide) gS;have hxS:∀y∈xs,OwnS zB 3 B S y.2.1 y.2.2 y.1:=fun y hy=>qc (hxU y hy) hmU (by decide) gS;have ho2S:=qc ho2U hmU (by decide) gS;have ho1S:=qc oU hmU (by decide) gS;have hBb:B≠b:=(by omega);have fBS:=(gS.block B (hlt fBU) (by simp;omega)).trans fBU;refine⟨_,jL fS (i:=1) rfl,⟨by decide,by decide,rfl⟩,qF.enc (fr,p3,c3),rfl,?_⟩;obtain⟨S1,hS1⟩:=nm (S.alloc (.cells (qF.enc (fr,p3,c3)).toArray 89));have hbS1:Bw S S1:=(by rw[hS1];exact(zba _ _));have sS1:S1.heap.size=S.heap.size+1:=(by rw[hS1];exact wz _ _);have ho2S1:=ho2S.below hbS1;have sU:=gU.size;unfold zcA jP;show SatR _ _;rw[<- hS1];refine ztR ho2S1 (by rw[hS1];exact qq qF (fr,p3,c3)) (by omega) (by omega) fun q2 d2 N oN gN hat2=>?_;rw[j7] at gN;have fN:=qb (zb hbS1 fS) ho2S1 (by decide) gN;refine zn k90 fN (o:=0+334) (v := .slice q2 (xs++[(fr,p3,c3)]).length d2) rfl rfl (by rw[lap,zM];show 334<336;decide) rfl fun O fO gO sO=>?_;rw[show 0+334=333+1 from rfl,zh3] at fO;have fO:zaD O b x (some ⟨bp,op,none⟩) c [.slice q1 ((dn++[(k,fr)]).map (·.1)).length d1,.slice q2 (xs++[(fr,p3,c3)]).length d2,.slice (some ⟨B,0,none⟩) locs locs]:=by
     rw[QG];exact fO
    have step:∀{q:OA} {cc:Nat} {ll:List Nat} {B':Nat},OwnS zB 3 B' S q cc ll->OwnS zB 3 B' O q cc ll:=fun h =>
     qc (jK (h.below hbS1) ho2S1 (by decide) gN) fN (by decide) gO
    have h2B:∀a,p2=some a->a.block≠B:=hd2;have fBO:RowLH O B W:=by
     have h1:=zb hbS1 fBS;have h2:=(gN.block B (hlt h1) fun e=>by
      cases hp:p2 with
      | none=>rw [hp] at e;cases e
      | some a =>
       rw[hp] at e;simp only[QU,KS] at e;exact hd2 a hp e.symm).trans h1
     exact(gO.block B (hlt h2) (by simp;omega)).trans h2
    have newr:∀a,q1=some a->p1=some a\/V.heap.size<=a.block:=fun a ha=>(hat1 a ha).imp id fun h=>by omega
    have new2:∀a,q2=some a->p2=some a\/U.heap.size<=a.block:=fun a ha=>(hat2 a ha).imp id fun h=>by omega
    have frM:∀a,p3=some a->M<=a.block/\a.block<V.heap.size:=fun a ha=>⟨(zx hoV ha).1,(zx hoV ha).2.1⟩;have hwb:w.grownBy O (some b):=by
     have sG:=gS.size;have sZ:=hlt fZ;have e0:Below B Z V1:=hZV1.mono (by omega);have e1:Below B V1 U:=qB ho1V (by omega) (UN _) gU;have e2:Below B S S1:=hbS1.mono (by omega);have e3:Below B S1 N:=qB ho2S1 (by omega) (UN _) gN;rw[hB] at e0 e1 e2 e3;exact zf (qO (qO (zf (qO (qO gZ e0) e1) gS) e2) e3) gO
    refine nxI (by omega) ⟨(k+1,dn++[(k,fr)],xs++[(fr,p3,c3)],(q1,d1),(q2,d2)),(cvE rfl rfl),⟨hkl,?_,?_,?_,fO,fBO,hwb,fun y hy=>step (hWS y hy),fun y hy=>?_,?_,qc oN fN (by decide) gO,fun a ha y hy b' hb'=>?_,fun a ha=>?_⟩,zdc (by omega)⟩
    ·show RS=(dn++[(k,fr)])++_;rw[hspec,<- hfr,KH];rfl
    ·show(dn++[(k,fr)]).length<=k+1;simp only[lap,Qj,QE];omega
    ·show(xs++[(fr,p3,c3)]).map (·.1)=(dn++[(k,fr)]).map (·.2);rw[QG,QG,hxs];rfl
    ·rcases QH.1 hy with hy | hy
     ·exact step (hxS y hy)
     ·rw[Kv.1 hy];exact step (hoS.lower hbMB)
    ·show OwnS zB 3 B O q1 d1 ((dn++[(k,fr)]).map (·.1));rw[QG];exact step ho1S
    ·have old:(y∈xs\/y∈W)\/y=(fr,p3,c3):=by
      rcases hy with hy | hy
      ·rcases QH.1 hy with hy | hy
       ·exact .inl (.inl hy)
       ·exact .inr (Kv.1 hy)
      ·exact .inl (.inr hy)
     rcases old with hy | rfl
     ·rcases newr a ha with h | h
      ·exact hd1 a h y hy b' hb'
      ·have:b'.block<Z.heap.size:=by
        rcases hy with hy | hy
        ·exact(zx (hxo y hy) hb').2.1
        ·exact(zx (hWo y hy) hb').2.1
       have:=hZV.size;omega
     ·have h3:=frM b' hb';rcases newr a ha with h | h
      ·have:=p1M a h;omega
      ·omega
    ·rcases new2 a ha with h | h
     ·exact hd2 a h
     ·omega
 ·have hc:¬(k:Int)<(x.ev.length:Int):=dF hc;obtain rfl:k=x.ev.length:=by omega
  rw[Qd] at hspec;have hspec:RS=dn++[]:=hspec;rw[QA] at hspec;subst hspec;refine⟨rfl,⟨p1,p2,some ⟨B,0,none⟩,c1,c2,locs,xs,W,by rw[hWl];rw[QD] at hmZ;exact hmZ,by rw[<- hB];exact ho1,hxs,by rw[<- hB];exact ho2,by rw[<- hB];exact hxo,rfl,?_,by rw[<- hB];exact hWo⟩,gZ⟩;rw[<- hB];have:=fZ.own (B:=B) (UN _) (by unfold maxLen;omega);rw[hWl] at this;exact this
end
theorem zlB{P:Program}{w:Wd}{t ty:TypeId}{a b:Nat}{K:Value->Wd->Prop}(k:K (i64 (min a b:Nat)) w):SatR ((Builtin.min_ #[t,t] ty #[i64 a,i64 b]).run P w) K:=by
 refine SatR.mk (v:=i64 (min a b:Nat)) (w':=w) ?_ k;by_cases h:(b:Int)<a
 ·have e:min a b=b:=Nat.min_eq_right (by omega);rw[e];simp[Builtin.min_,Builtin.min2,i64,h]
 ·have e:min a b=a:=QQ (by omega);rw[e];simp[Builtin.min_,Builtin.min2,i64,h]
section
variable{b o:Nat}{x:ExD}{q:OA}{c:Nat}{w:Wd}{r:Value}{p2 p3:OA}{c2 c3 lim:Nat}{xs ys:List zaj}
def zo0 (lim:Nat) (fs ws:List (List Nat)):Nat:=match zjK lim fs 1 with
 | none=>0
 | some n=>zil lim ws n
theorem zqN(hm:zF w ⟨b,o,none⟩ (exC x q c++[r,.slice p2 xs.length c2,.slice p3 ys.length c3]))(h2:SlR qF w p2 xs)(h3:SlR qF w p3 ys)(hx:∀y∈xs,y.1.length<=1000)(hy:∀y∈ys,y.1.length<=1000)(hxl:xs.length<=1000)(hyl:ys.length<=1000)(hl0:1<=lim)(hl:lim<=100000) :
  Calls PG 27 #[.pointer (some ⟨b,o,none⟩),i64 lim] w fun e w'=>e = .returned (i64 (zo0 lim (xs.map (·.1)) (ys.map (·.1)):Nat))/\w=w':=by
 refine zC 52 [.pointer (some ⟨b,o,none⟩),i64 lim] Tryz.func27 ?_;have g2:w.cell? ⟨b,o+334,none⟩=some (.slice p2 xs.length c2):=zc hm (zfp (i:=1) rfl);have g3:w.cell? ⟨b,o+335,none⟩=some (.slice p3 ys.length c3):=zc hm (zfp (i:=2) rfl);refine⟨_,g2,?_⟩;obtain⟨l,t⟩:=nm (xs.map (·.1));have aj:l.length=xs.length:=by rw[t,QD]
 rw[<- t];refine⟨Nat×Nat,fun s=>⟨[(0,.pointer (some ⟨b,o,none⟩)),(1,i64 lim),(5,i64 (s.2:Nat)),(14,.slice p2 xs.length c2),(15,i64 xs.length),(16,i64 (s.1:Nat))],[]⟩,
  fun s X=>s.1<=xs.length/\s.2<=lim/\zjK lim (l.drop s.1) s.2=zjK lim l 1/\w=X,fun s=>xs.length-s.1,(0,1),
  (cvE rfl rfl),⟨UP _,hl0,rfl,rfl⟩,?_⟩
 rintro⟨k,n⟩ _ ⟨hk,af,a,rfl⟩;dsimp only at hk af a ⊢;refine biE (fun f=>?_) fun f=>?_
 ·have f:(k:Int)<(xs.length:Int):=dT f;have d:k<xs.length:=by omega
  obtain⟨bp,op,rfl,ai,ab⟩:=h2.at d;have aa:l[k]'(by omega)=xs[k].1:=by simp[t]
  rw[<- JA (show k<l.length by omega),aa] at a;have a:(if xs[k].1=[] then none else zjK lim (l.drop (k+1)) (min (n*xs[k].1.length) lim))=zjK lim l 1:=a;have g:=hx xs[k] (gM d);refine⟨k,rfl,d,slV xs[k],zc (ab k d) (i:=0) rfl,biE (fun h=>?_) fun h=>?_⟩
  ·have h:(xs[k].1.length:Int)=0:=dT h;have h0:xs[k].1=[]:=Jd (by omega);rw[Gd h0] at a;refine⟨?_,rfl⟩;unfold zo0;rw[<- a];rfl
  ·have h:¬(xs[k].1.length:Int)=0:=dF h;have h0:xs[k].1≠[]:=fun e=>h (by rw[e];rfl);rw[Gc h0] at a;have ah:n*xs[k].1.length<=100000*1000:=Ug (by omega) g;exact⟨((n*xs[k].1.length:Nat):Int),by rw[Qy];exact zg (by rw[<- Qy];omega),zlB (nxI (by omega) ⟨(k+1,min (n*xs[k].1.length) lim),(cvE rfl rfl),⟨d,Qs _ _,a,rfl⟩,zdc (by omega)⟩)⟩
 have f:¬(k:Int)<(xs.length:Int):=dF f;rw[Jv (by omega)] at a;have a:some n=zjK lim l 1:=a;have u:zo0 lim l (ys.map (·.1))=zil lim (ys.map (·.1)) n:=by unfold zo0;rw[<- a]
 rw[u];obtain⟨z,ac⟩:=nm (ys.map (·.1));have am:z.length=ys.length:=by rw[ac,QD]
 rw[<- ac];clear u a f hk aj t g2;refine⟨_,g3,?_⟩;refine⟨Nat×Nat,fun s=>⟨[(0,.pointer (some ⟨b,o,none⟩)),(1,i64 lim),(5,i64 (s.2:Nat)),(33,.slice p3 ys.length c3),(34,i64 ys.length),(35,i64 (s.1:Nat))],[]⟩,
  fun s X=>s.1<=ys.length/\s.2<=lim/\zil lim (z.drop s.1) s.2=zil lim z n/\w=X,fun s=>ys.length-s.1,(0,n),
  (cvE rfl rfl),⟨UP _,af,rfl,rfl⟩,?_⟩
 rintro⟨k,n'⟩ _ ⟨hk,v,a,rfl⟩;dsimp only at hk v a ⊢;refine biE (fun f=>?_) fun f=>?_
 ·have f:(k:Int)<(ys.length:Int):=dT f;have d:k<ys.length:=by omega
  obtain⟨bp,op,rfl,ai,ab⟩:=h3.at d;have aa:z[k]'(by omega)=ys[k].1:=by simp[ac]
  rw[<- JA (show k<z.length by omega),aa] at a;obtain⟨L,hL⟩:=nm (ys[k].1.length);have a:zil lim (z.drop (k+1)) (zjL lim L L 2 n')=zil lim z n:=by rw[hL];exact a
  have g:=hy ys[k] (gM d);rw[<- hL] at g;refine⟨k,rfl,d,slV ys[k],zc (ab k d) (i:=0) rfl,?_⟩;refine⟨Nat×Nat×Nat,fun s=>⟨[(0,.pointer (some ⟨b,o,none⟩)),(1,i64 lim),(5,i64 (s.2.2:Nat)),(9,slV ys[k]),(10,i64 (s.2.1:Nat)),(33,.slice (some ⟨bp,op,none⟩) ys.length c3),(34,i64 ys.length),(35,i64 (k:Nat))],[]⟩,
   fun s X=>s.2.2<=lim/\L<=s.2.1+s.1/\s.2.1<=L+2/\zjL lim L s.1 s.2.1 s.2.2=zjL lim L L 2 n'/\w=X,fun s=>s.1,(L,2,n'),
   (cvE rfl rfl),⟨v,by show L<=2+L;omega,by show 2<=L+2;omega,rfl,rfl⟩,?_⟩
  rintro⟨m,j,p⟩ _ ⟨ae,al,ag,hK,rfl⟩;dsimp only at ae al ag hK ⊢;refine biE (fun f=>?_) fun f=>?_
  ·have f:(j:Int)<(ys[k].1.length:Int):=dT f;have ad:j<L:=by omega
   obtain⟨m,rfl⟩:∃m',m=m'+1:=⟨m-1,by omega⟩;have hK:(if j<L then zjL lim L m (j+1) (min (p*j) lim) else p)=zjL lim L L 2 n':=hK;rw[Gd ad] at hK;have ah:p*j<=100000*1000:=Ug (by omega) (by omega);exact⟨((p*j:Nat):Int),by rw[Qy];exact zg (by rw[<- Qy];omega),zlB (nxI (by omega) ⟨(m,j+1,min (p*j) lim),(cvE rfl rfl),⟨Qs _ _,by show L<=j+1+m;omega,by show j+1<=L+2;omega,hK,rfl⟩,Qr _⟩)⟩
  ·have f:¬(j:Int)<(ys[k].1.length:Int):=dF f;have ad:¬j<L:=by omega
   have ak:p=zjL lim L L 2 n':=by
    rw[<- hK]
    cases m with
    | zero=>rfl
    | succ m =>
     show p=if j<L then _ else p
     rw[Gc ad]
   exact nxI (by omega) ⟨(k+1,p),(cvE rfl rfl),⟨d,ae,by rw[ak];exact a,rfl⟩,zdc (by omega)⟩
 ·have f:¬(k:Int)<(ys.length:Int):=dF f;rw[Jv (by omega)] at a;have a:n'=zil lim z n:=a;rw[<- a];exact⟨rfl,rfl⟩
end
theorem zaF:(zj3).toArray.size=333:=by kernel_rfl
theorem jG:(zcm).toArray.size=336:=by kernel_rfl
section
variable{w:Wd}
theorem zqI{n:Nat}:CB 129 #[i64 n] w (.agg (exC (ex0 n) none 0).toArray):=by
 refine qg 13 [i64 n] (.s .p (.c .p .p)) Tryz.func129 ?_;obtain⟨L,h⟩:=nm (w.heap.size);obtain⟨X0,b⟩:=nm (w.alloc (.cells (zj3).toArray 78));have l:X0.heap[L]?=some (.cells (zj3).toArray 78 (0,0)):=by rw[b,h];exact zw w _
 have k:X0.heap.size=L+1:=by rw[b,h];exact wz _ _
 have f:Bw w X0:=by rw[b];exact(zba w _)
 refine⟨Unit,fun _=>⟨[(2,At0 L),(3,At0 (L+1))],[]⟩,fun _ X=>X.heap[L]?=some (.cells (zj3).toArray 78 (0,0))/\zQ X (L+1) (zdk n)/\Bw w X,?_,?_⟩
 ·refine⟨zd (zdk n),rfl,zr (X:=w.alloc (.cells (zj3).toArray 78 (0,0))) (v := .agg (zd (zdk n)).toArray) k76 (ze _) (by kernel_rfl) (zD _) fun V d g i=>?_⟩;rw[<- b] at d g i;rw[k] at g i;exact⟨(),⟨.cons (by rw[h];rfl) (.cons (by rw[<- k,b];rfl) .nil),rfl⟩,zb d l,g,(zst f d)⟩
 rintro _ X ⟨j,a,e⟩;refine⟨zd (zdk n),ze _,za a,hlt a,zd (zdk n),ze _,za a,hlt a,zd (zdk n),ze _,za a,hlt a,zd (zdk n),ze _,za a,hlt a,zd (zdk n),ze _,za a,hlt a,zd (zdk n),ze _,za a,hlt a,exC (ex0 n) none 0,by kernel_rfl,?_⟩;exact zo (v := .agg (exC (ex0 n) none 0).toArray) k78 j (zM _ _ _) zaF (zbt _ _ _) ⟨exC (ex0 n) none 0,zM _ _ _,za (zk j),rfl,zh e (by omega) _⟩
end
structure PathB (locs:Nat) (P:PathD):Prop where
 ev:P.ev.length<=24
 loc:∀e∈P.ev,e.k=1\/e.k=2->e.l.toNat<locs
 dt:∀p∈P.data,p.1<P.ev.length/\p.2<P.ev.length
 ct:∀p∈P.ctrl,p.1<P.ev.length/\p.2<P.ev.length
 rm:∀p∈P.rmw,p.1<P.ev.length/\p.2<P.ev.length
 dtl:P.data.length<=100000
 ctl:P.ctrl.length<=100000
 rml:P.rmw.length<=100000
structure PthS (B:Nat) (w:Wd) (x:zcO):Prop where
 lt:∀a,x.2.2.1.1=some a\/x.2.2.2.1.1=some a\/x.2.2.2.2.1=some a->a.block<B
 ev:SlR evE w x.2.1.1 x.1.ev
 dt:SlR prE w x.2.2.1.1 x.1.data
 ct:SlR prE w x.2.2.2.1.1 x.1.ctrl
 rm:SlR prE w x.2.2.2.2.1 x.1.rmw
theorem PthS.below{B:Nat}{w X:Wd}{x:zcO}(h:PthS B w x)(hb:Bw w X):PthS B X x:=⟨h.lt,h.ev.below hb,h.dt.below hb,h.ct.below hb,h.rm.below hb⟩
theorem zaA:∀(vs:List UInt8) (l:Nat),(jr l vs).length=vs.length
 | [],_=>rfl
 | v::vs,l=>by
  show(jr (l+1) vs).length+1=vs.length+1;rw[zaA vs]
theorem zeH:∀(vs:List UInt8) (l:Nat) {k:Nat} (h:k<vs.length),(jr l vs)[k]?=some ⟨-1,2,UInt8.ofNat (l+k),vs[k],0,0,0⟩
 | [],_,_,h=>by cases h
 | v::vs,l,0,_=>rfl
 | v::vs,l,k+1,h=>by
  show(jr (l+1) vs)[k]?=_;rw[zeH vs (l+1) (Nat.lt_of_succ_lt_succ h),Us,UA 1 k];rfl
theorem zjk{vs:List UInt8}{k:Nat}(h:k<vs.length):(jr 0 vs).take (k+1)=(jr 0 vs).take k++[⟨-1,2,UInt8.ofNat k,vs[k],0,0,0⟩]:=by
 have a:k<(jr 0 vs).length:=by rw[zaA];exact h
 have:=zeH vs 0 h;rw[gE a,UH] at this;rw[tsg a,QV this]
theorem znI(n:Nat)(Ps:List PathD):n<=Ps.foldl (fun n P=>n+P.ev.length) n:=by
 induction Ps generalizing n with
 | nil=>exact UN _
 | cons P Ps ih=>exact UC (Qp _ _) (ih (n+P.ev.length))
theorem ztf{B c:Nat}{V1:Wd}{p:OA}{l:List Ev}{y:Ev}{a:Addr}(ho:OwnS evE 80 B V1 p c l)(ha:zF V1 a ([y].flatMap evE.enc))(hB:B<=V1.heap.size)(hl:l.length<=100000){K:Value->Wd->Prop}
  (h:∀p' c' w',OwnS evE 80 B w' p' c' (l++[y])->V1.grownBy w' (p.map Addr.block)->(∀a,p'=some a->p=some a\/a.block=V1.heap.size)->K (.slice p' (l++[y]).length c') w') :
  SatR ((Builtin.append_ #[72,72] 72 #[.slice p l.length c,.slice (some a) 1 1]).run PG V1) K :=
 qQ (E:=evE) (T:=80) (B:=B) (l:=l) (news:=[y]) (cap:=c) (m:=1) Tryz.underlying72 k80 rfl rfl rfl ho rfl ha hB (by omega) (by show(l.length+1)*16<=_;omega) fun p' c' w' d b _ e=>h p' c' w' d (by rw[j7] at b;exact b) e
theorem znL{f g:Nat->UInt8}:∀{k:Nat},k<4->(seg 32 (fun i=>u8 (f i))).take (k*8)++seg 8 (fun i=>u8 (g i))++(seg 32 (fun i=>u8 (f i))).drop (k*8+8)=seg 32 (fun i=>u8 (if i/8=k then g (i%8) else f i))
 | 0,_=>by kernel_rfl
 | 1,_=>by kernel_rfl
 | 2,_=>by kernel_rfl
 | 3,_=>by kernel_rfl
 | k+4,h=>by omega
theorem zi0{A Z l r:List Value}{n o m:Nat}(hA:A.length=n)(hl:o+m<=l.length)(hr:r.length=m):(A++(l++Z)).take (n+o)++r++(A++(l++Z)).drop (n+o+m)=A++((l.take o++r++l.drop (o+m))++Z):=by
 subst hA;rw[List.take_length_add_append,Je (by omega),Us,Jh,Jc hl];simp only[KH]
theorem zpd(k:Nat)(P:PathD)(Ps:List PathD)(x:ExD):asR k (P::Ps) x=asR (k+1) Ps (zis x k P):=rfl
theorem zmf{k:Nat}{l:List Ev}{j:Nat}(h:j<l.length):zdg k (l.take (j+1))=zdg k (l.take j)++[{ l[j] with th:=k }]:=by
 rw[tsg h];unfold zdg;rw[QG];rfl
theorem zbO{n f:Nat}{ps:List (Nat×Nat)}(h:∀p∈ps,p.1<n/\p.2<n)(hf:f+n<=48):zn2 f ps:=fun p a=>⟨by have:=(h p a).1;omega,by have:=(h p a).2;omega⟩
def ztj (B:Nat) (w:Wd) (vs:List Value) (m:MixD):Prop :=
 ∃(q p1 p2 p3:OA) (c c1 c2 c3:Nat) (xs ys:List zaj),vs=exC m.base q c++[.slice p1 m.rs.length c1,.slice p2 xs.length c2,.slice p3 ys.length c3]/\OwnS evE 80 B w q c m.base.ev /\
  OwnS zB 3 B w p1 c1 (m.rs.map (·.1))/\xs.map (·.1)=m.rs.map (·.2)/\OwnS qF 89 B w p2 c2 xs/\(∀y∈xs,OwnS zB 3 B w y.2.1 y.2.2 y.1) /\
   ys.map (·.1)=m.wr/\OwnS qF 89 B w p3 c3 ys/\∀y∈ys,OwnS zB 3 B w y.2.1 y.2.2 y.1
section
variable{w:Wd}{bP cl cp ci:Nat}{pc:List Value}{pl pp pi:OA}{init:List UInt8}{Ps:List zcO}
theorem zk2(fP:w.heap[bP]?=some (.cells pc.toArray 29 (0,0)))(h1:pc[1]?=some (.slice pl init.length cl))(h2:pc[2]?=some (.slice pi init.length ci))(hi:SlR zN w pi init)(hi6:init.length<=6)
  (hP:SlR ji w pp Ps) (hPs:∀x∈Ps,PthS w.heap.size w x) (hPb:∀x∈Ps,PathB init.length x.1) (hP4:Ps.length<=4) :
  Calls PG 66 #[At0 bP,.slice pp Ps.length cp] w fun e w'=>(∃vs,match zja init (Ps.map (·.1)) with
   | some m=>e = .returned (.tuple #[.agg vs.toArray,.bool true])/\ztj w.heap.size w' vs m
   | none=>e = .returned (.tuple #[.agg vs.toArray,.bool false])/\vs=zcm)/\Bw w w':=by
 refine qg 143 [At0 bP,.slice pp Ps.length cp] (.c .p (.s .p (.c .p (.s .p (.s .p (.c .p (.c .p (.c .p (.c .p (.c .p .p)))))))))) Tryz.func66 ?_;obtain⟨L,hL⟩:=nm (w.heap.size);obtain⟨N,hN⟩:=nm (znJ init.length (Ps.map (·.1)));have dk:=hlt fP;refine⟨Unit,fun _=>⟨[(0,At0 bP),(1,.slice pp Ps.length cp),(4,At0 L)],[]⟩,fun _ X=>X.heap[L]?=some (.cells (zcm).toArray 92 (0,0))/\Bw w X,?_,?_⟩
 ·exact⟨(),⟨.cons rfl (.cons rfl (.cons (by rw[hL];rfl) .nil)),rfl⟩,by rw[hL];exact zw w _,(zba w _)⟩
 rintro _ X ⟨f0,b⟩;have ba:∀{X:Wd},Bw w X->∀{i:Nat} {v:Value},pc[i]?=some v->X.cell? ⟨bP,0+i,none⟩=some v:=fun{X} hb {i v} h=>zc (za ((hb.block bP dk).trans fP)) (by simpa using h);refine⟨_,ba b h1,Unit,fun _=>⟨[(0,At0 bP),(1,.slice pp Ps.length cp),(4,At0 L),(6,i64 N)],[]⟩,fun _ X=>X.heap[L]?=some (.cells (zcm).toArray 92 (0,0))/\Bw w X,?_,?_⟩
 ·refine⟨Nat×Nat,fun s=>⟨[(0,At0 bP),(1,.slice pp Ps.length cp),(4,At0 L),(6,i64 (s.2:Nat)),(23,.slice pp Ps.length cp),(24,i64 Ps.length),(25,i64 (s.1:Nat))],[]⟩,
   fun s Y=>s.1<=Ps.length/\s.2<=init.length+24*s.1/\((Ps.map (·.1)).drop s.1).foldl (fun n P=>n+P.ev.length) s.2=N/\Y.heap[L]?=some (.cells (zcm).toArray 92 (0,0))/\Bw w Y,fun s=>Ps.length-s.1,(0,init.length),
   (cvE rfl rfl),⟨UP _,UN _,hN.symm,f0,b⟩,?_⟩
  clear f0 b;rintro⟨k,n⟩ Y ⟨hk,hn,g,f0,d⟩;dsimp only at hk hn g ⊢;refine biE (fun hc=>?_) fun hc=>?_
  ·have hc:(k:Int)<(Ps.length:Int):=dT hc;have aa:k<Ps.length:=by omega
   obtain⟨x,hx⟩:∃x,Ps[k]=x:=⟨_,rfl⟩;have di:x∈Ps:=by rw[<- hx];exact gM aa
   have a7:(Ps.map (·.1)).drop k=x.1::(Ps.map (·.1)).drop (k+1):=by
    rw[<- JA (show k<(Ps.map (·.1)).length by simpa using aa)];simp[hx]
   rw[a7] at g;have eg:=(hPb x di).ev;obtain⟨bp,op,rfl,bj,ay⟩:=hP.at aa;refine⟨k,rfl,aa,ji.enc x,ji.len x,by rw[<- hx];exact zt d (ay k aa),nL bj d.size,zr (X:=Y) (v := .agg (ji.enc x).toArray) zmL (ji.len x) rfl (Qa.2 fun u hu=>ji.one x u hu) fun Z ad fZ sZ=>?_⟩;have fZ:Z.heap[Y.heap.size]?=some (.cells (ji.enc x).toArray 145 (0,0)):=fZ;exact⟨.slice x.2.1.1 x.1.ev.length x.2.1.2,zc (za fZ) (i:=0) rfl,((n+x.1.ev.length:Nat):Int),(zg (by omega)).trans (by omega),nxI (by omega) ⟨(k+1,n+x.1.ev.length),(cvE rfl rfl),⟨aa,by show n+x.1.ev.length<=init.length+24*(k+1);omega,g,zb ad f0,(zst d ad)⟩,zdc (by omega)⟩⟩
  ·have hc:¬(k:Int)<(Ps.length:Int):=dF hc;rw[Jv (by rw[QD];omega)] at g;have g:n=N:=g;subst g;exact⟨(),(cvE rfl rfl),f0,d⟩
 clear f0 b;rintro _ X ⟨f0,b⟩;have b2:zja init (Ps.map (·.1))=if N<=48 then some (jM (zpa init (Ps.map (·.1))) init.length) else none:=by rw[hN];rfl
 have bx:=hlt f0;refine biE (fun h=>?_) fun h=>?_
 ·have h:(48:Int)<(N:Nat):=dT h;rw[b2,Gc (by omega)];refine⟨zcm,by kernel_rfl,?_⟩;exact zo (v := .agg (zcm).toArray) k92 f0 jG jG (by kernel_rfl) ⟨zcm,jG,za (zk f0),⟨_,rfl,rfl⟩,zh b (by omega) _⟩
 have h:¬(48:Int)<(N:Nat):=dF h;have c6:N<=48:=by omega
 rw[b2,Gd c6];refine cmo zqI ?_;rintro e Y ⟨rfl,d⟩;refine⟨exC (ex0 N) none 0++[zR,zR,zR],by kernel_rfl,?_⟩;refine zr (X:=Y) (v := .agg (exC (ex0 N) none 0++[zR,zR,zR]).toArray) k92 (by show(exC (ex0 N) none 0++[zR,zR,zR]).length=_;rw[lap,zM];rfl) jG (by show(exC (ex0 N) none 0++[zR,zR,zR]).all _=true;rw[Qz,zbt];rfl) fun V ae fV sV=>⟨Nat,fun M=>⟨[(0,At0 bP),(1,.slice pp Ps.length cp),(4,At0 L),(9,At0 M),(10,At0 M)],[]⟩,fun M X=>L<M/\zaD X M (ex0 N) none 0 [zR,zR,zR]/\X.heap[L]?=some (.cells (zcm).toArray 92 (0,0))/\Bw w X,?_,?_⟩
 ·exact⟨Y.heap.size,(cvE rfl rfl),by have:=d.size;omega,fV,zb ae (zb d f0),((zst b d)).trans (ae.mono (by have:=b.size;have:=d.size;omega))⟩
 clear fV sV ae V d Y;clear f0 b bx;rintro M X ⟨ec,fM,f0,b⟩;dsimp only at fM ⊢;refine⟨OA×Nat,fun _=>⟨[(0,At0 bP),(1,.slice pp Ps.length cp),(4,At0 L),(9,At0 M),(10,At0 M)],[]⟩,fun s X=>zaD X M { ex0 N with ev:=jr 0 init } s.1 s.2 [zR,zR,zR]/\OwnS evE 80 w.heap.size X s.1 s.2 (jr 0 init)/\X.heap[L]?=some (.cells (zcm).toArray 92 (0,0))/\Bw w X,?_,?_⟩
 ·refine⟨_,ba b h2,?_⟩;refine⟨Nat×OA×Nat,fun s=>⟨[(0,At0 bP),(1,.slice pp Ps.length cp),(4,At0 L),(9,At0 M),(10,At0 M),(45,.slice pi init.length ci),(46,i64 init.length),(47,i64 (s.1:Nat))],[]⟩,
   fun s Y=>s.1<=init.length/\zaD Y M { ex0 N with ev:=(jr 0 init).take s.1 } s.2.1 s.2.2 [zR,zR,zR]/\OwnS evE 80 w.heap.size Y s.2.1 s.2.2 ((jr 0 init).take s.1)/\Y.heap[L]?=some (.cells (zcm).toArray 92 (0,0))/\Bw w Y,fun s=>init.length-s.1,(0,none,0),
   (cvE rfl rfl),⟨UP _,fM,OwnS.nil,f0,b⟩,?_⟩
  clear fM f0 b;rintro⟨k,q,c⟩ Y ⟨hk,fM,ho,f0,d⟩;dsimp only at hk fM ho ⊢;refine biE (fun hc=>?_) fun hc=>?_
  ·have hc:(k:Int)<(init.length:Int):=dT hc;have aa:k<init.length:=by omega
   obtain⟨bi,oi,rfl,ek,ay⟩:=hi.at aa;have ar:=zjk aa;have ef:((jr 0 init).take k).length=k:=by rw[Ql,zaA];omega
   refine⟨k,rfl,aa,u8 init[k],zc (zt d (ay k aa)) (i:=0) rfl,_,zb4 fM,_,w8N k,?_⟩;obtain⟨e,he⟩:∃e:Ev,e=⟨-1,2,UInt8.ofNat k,init[k],0,0,0⟩:=⟨_,rfl⟩;refine⟨evE.enc e,by rw[he];rfl,?_⟩;refine⟨⟨by decide,by decide,rfl⟩,evE.enc e,zar rfl rfl,?_⟩;obtain⟨Y1,ag⟩:=nm (Y.alloc (.cells (evE.enc e).toArray 80));have ab:Bw Y Y1:=by rw[ag];exact(zba _ _)
   have sY:=d.size;have al:=ho.below ab;unfold zcA jP;show SatR _ _;rw[<- ag];refine ztf al (by rw[ag];exact qq evE e) (by have:=ab.size;omega) (by omega) fun q1 c1 U oU gU cx=>?_;have az:=qb (zb ab fM) al (by decide) gU;have av:=qb (zb ab f0) al (by decide) gU;refine zn k72 az (o:=0+0) (v := .slice q1 ((jr 0 init).take k++[e]).length c1) rfl rfl (by rw[lap,zM];decide) rfl fun S fS gS sS=>?_;rw[show 0+0=0 from rfl,zru,he,<- ar] at fS;refine nxI (by omega) ⟨(k+1,q1,c1),(cvE rfl rfl),⟨aa,fS,by rw[he,<- ar] at oU;exact qc oU az (by decide) gS,(gS.block L (hlt av) (by simp;omega)).trans av,?_⟩,zdc (by omega)⟩;have sU:=gU.size;have s1:=ab.size;exact((d.trans (ab.mono sY)).trans (qB al (by omega) (UN _) gU)).trans (zm gS (by omega) (by omega))
  ·have hc:¬(k:Int)<(init.length:Int):=dF hc;obtain rfl:k=init.length:=by omega
   have e:(jr 0 init).take init.length=jr 0 init:=JB (by rw[zaA];exact UN _);rw[e] at fM ho;exact⟨(q,c),(cvE rfl rfl),fM,ho,f0,d⟩
 clear fM f0 b;rintro⟨q,c⟩ X ⟨fM,ho,f0,b⟩;dsimp only at fM ho ⊢;obtain⟨x0,a2⟩:∃x0:ExD,x0={ ex0 N with ev:=jr 0 init }:=⟨_,rfl⟩;have aq:x0.ev=jr 0 init:=by rw[a2]
 rw[<- a2] at fM;rw[<- aq] at ho;refine⟨OA×Nat,fun _=>⟨[(0,At0 bP),(1,.slice pp Ps.length cp),(4,At0 L),(9,At0 M),(10,At0 M)],[]⟩,fun s X=>zaD X M (asR 0 (Ps.map (·.1)) x0) s.1 s.2 [zR,zR,zR]/\OwnS evE 80 w.heap.size X s.1 s.2 (asR 0 (Ps.map (·.1)) x0).ev/\(asR 0 (Ps.map (·.1)) x0).ev.length=N/\(∀e∈(asR 0 (Ps.map (·.1)) x0).ev,e.k=1\/e.k=2->e.l.toNat<init.length)/\X.heap[L]?=some (.cells (zcm).toArray 92 (0,0))/\Bw w X,?_,?_⟩
 ·refine⟨Nat×ExD×OA×Nat,fun s=>⟨[(0,At0 bP),(1,.slice pp Ps.length cp),(4,At0 L),(9,At0 M),(10,At0 M),(66,.slice pp Ps.length cp),(67,i64 Ps.length),(68,i64 (s.1:Nat))],[]⟩,
   fun s Y=>s.1<=Ps.length/\asR s.1 ((Ps.map (·.1)).drop s.1) s.2.1=asR 0 (Ps.map (·.1)) x0/\((Ps.map (·.1)).drop s.1).foldl (fun n P=>n+P.ev.length) s.2.1.ev.length=N/\(zG s.2.1.dt.to/\zG s.2.1.ct.to/\zG s.2.1.rm.to)/\(∀e∈s.2.1.ev,e.k=1\/e.k=2->e.l.toNat<init.length) /\
    zaD Y M s.2.1 s.2.2.1 s.2.2.2 [zR,zR,zR]/\OwnS evE 80 w.heap.size Y s.2.2.1 s.2.2.2 s.2.1.ev/\Y.heap[L]?=some (.cells (zcm).toArray 92 (0,0))/\Bw w Y,fun s=>Ps.length-s.1,(0,x0,q,c),
   (cvE rfl rfl),⟨UP _,rfl,by rw[hN,aq,zaA];rfl,?_,?_,fM,ho,f0,b⟩,?_⟩
  ·rw[a2];exact⟨fun i _=>(by decide:0<2^64),fun i _=>(by decide:0<2^64),fun i _=>(by decide:0<2^64)⟩
  ·intro e he _;rw[aq] at he;obtain⟨j,hj⟩:=List.mem_iff_getElem?.1 he;have af:j<init.length:=by
    have:=(Jo.1 hj).1
    rwa [zaA] at this
   rw[zeH init 0 af] at hj;rw[<- QV hj];show(UInt8.ofNat (0+j)).toNat<init.length;have:=zj8 (n:=0+j) (by omega);omega
  clear fM ho f0 b;rintro⟨k,x,q,c⟩ Y ⟨hk,g,t,⟨bk,bh,br⟩,ac,fM,ho,f0,d⟩;dsimp only at hk g t bk bh br ac fM ho ⊢;refine biE (fun hc=>?_) fun hc=>?_
  ·have hc:(k:Int)<(Ps.length:Int):=dT hc;have aa:k<Ps.length:=by omega
   obtain⟨y,hy⟩:∃y,Ps[k]=y:=⟨_,rfl⟩;have ap:y∈Ps:=by rw[<- hy];exact gM aa
   have a7:(Ps.map (·.1)).drop k=y.1::(Ps.map (·.1)).drop (k+1):=by
    rw[<- JA (show k<(Ps.map (·.1)).length by simpa using aa)];simp[hy]
   rw[a7] at g t;rw[zpd] at g;have t:((Ps.map (·.1)).drop (k+1)).foldl (fun n P=>n+P.ev.length) (x.ev.length+y.1.ev.length)=N:=t;have df:=znI (x.ev.length+y.1.ev.length) ((Ps.map (·.1)).drop (k+1));rw[t] at df;obtain⟨ed,b3,b6,ca,c4,d8,dn,d3⟩:=hPb y ap;obtain⟨bp,op,rfl,bj,ay⟩:=hP.at aa;refine⟨k,rfl,aa,ji.enc y,ji.len y,by rw[<- hy];exact zt d (ay k aa),nL bj d.size,zr (X:=Y) (v := .agg (ji.enc y).toArray) zmL (ji.len y) rfl (Qa.2 fun u hu=>ji.one y u hu) fun Z ad fZ sZ=>?_⟩;obtain⟨D,hD⟩:=nm (Y.heap.size);have fD:Z.heap[D]?=some (.cells (ji.enc y).toArray 145 (0,0)):=by rw[hD];exact fZ
   have eh:M<D:=by rw[hD];exact hlt fM
   have eD:At0 Y.heap.size=At0 D:=by rw[hD]
   have a8:=zb ad fM;have cu:=zb ad f0;have c7:=ho.below ad;have b1:=zst d ad;refine⟨_,zb4 a8,.slice y.2.1.1 y.1.ev.length y.2.1.2,by rw[<- hD];exact zc (za fD) (i:=0) rfl,?_⟩;refine⟨Nat×OA×Nat,fun s=>⟨[(0,At0 bP),(1,.slice (some ⟨bp,op,none⟩) Ps.length cp),(4,At0 L),(9,At0 M),(10,At0 M),(13,i64 (k:Nat)),(14,At0 D),(15,i64 x.ev.length),(66,.slice (some ⟨bp,op,none⟩) Ps.length cp),(67,i64 Ps.length),(68,i64 (k:Nat)),(79,.slice y.2.1.1 y.1.ev.length y.2.1.2),(80,i64 y.1.ev.length),(81,i64 (s.1:Nat))],[]⟩,
    fun s V=>s.1<=y.1.ev.length/\zaD V M { x with ev:=x.ev++zdg k (y.1.ev.take s.1) } s.2.1 s.2.2 [zR,zR,zR]/\OwnS evE 80 w.heap.size V s.2.1 s.2.2 (x.ev++zdg k (y.1.ev.take s.1))/\V.heap[L]?=some (.cells (zcm).toArray 92 (0,0))/\V.heap[D]?=some (.cells (ji.enc y).toArray 145 (0,0))/\Bw w V,fun s=>y.1.ev.length-s.1,(0,q,c),
    ⟨.cons rfl (.cons rfl (.cons rfl (.cons rfl (.cons rfl (.cons rfl (.cons (UY some eD) (.cons rfl (.cons rfl (.cons rfl (.cons rfl (.cons rfl (.cons rfl (.cons rfl .nil))))))))))))),rfl⟩,⟨UP _,by show zaD Z M { x with ev:=x.ev++[] } q c _;rw[QA];exact a8,by show OwnS _ _ _ Z q c (x.ev++[]);rw[QA];exact c7,cu,fD,b1⟩,?_⟩
   clear a8 cu c7 b1 fZ sZ ad fM ho f0 d;rintro⟨j,q,c⟩ V ⟨hj,fM,ho,f0,fD,ae⟩;dsimp only at hj fM ho ⊢;have sV:=ae.size;have hS:=(hPs y ap).below ae;refine biE (fun hc=>?_) fun hc=>?_
   ·have hc:(j:Int)<(y.1.ev.length:Int):=dT hc;have af:j<y.1.ev.length:=(by omega);obtain⟨e,he⟩:∃e,y.1.ev[j]=e:=⟨_,rfl⟩;have ar:=zmf (k:=k) af;rw[he] at ar;obtain⟨be,oe,dw,d4,co⟩:=hS.ev.at af;rw[dw];refine⟨j,rfl,af,evE.enc e,rfl,by rw[<- he];exact co j af,d4,?_⟩;refine zr (X:=V) (v := .agg (evE.enc e).toArray) k80 rfl rfl (Qa.2 fun u hu=>evE.one e u hu) fun T d5 fT sT=>?_;have fT:T.heap[V.heap.size]?=some (.cells (evE.enc e).toArray 80 (0,0)):=fT;refine zn k3 fT (o:=0+0) (v:=i64 (k:Nat)) rfl rfl (by show 0<7;decide) rfl fun T2 bt c9 ea=>?_;obtain⟨e2,ch⟩:∃e2:Ev,e2={ e with th:=k }:=⟨_,rfl⟩;have bt:T2.heap[V.heap.size]?=some (.cells (evE.enc e2).toArray 80 (0,0)):=(by rw[ch];exact bt);have am:Bw V T2:=d5.trans (zm c9 (by omega) (UN _));have an:=zb am fM;have cd:=hdr bt;have hd:Bw T2 T2.drew:=(UR _ T2).drew;have dl:(x.ev++zdg k (y.1.ev.take j)).length<=48:=by
     unfold zdg;rw[lap,QD,Ql];omega
    have bc:=ho.below am;refine DrawE.ord [7,10] [0,1,2,3,4,5,6,7,8,9,10] (by kernel_rfl) ⟨_,zb4 (hdr an),evE.enc e2,rfl,za cd,hlt cd,⟨by decide,by decide,rfl⟩,evE.enc e2,zar rfl rfl,?_⟩;obtain⟨Y1,ag⟩:=nm (T2.drew.alloc (.cells (evE.enc e2).toArray 80));have ab:Bw T2 Y1:=(by rw[ag];exact hd.trans ((UR T2.drew.heap.size _).alloc (UN _) _));refine⟨(zba _ _),?_⟩;have sT:=am.size;have s1:=ab.size;have ah:=bc.below ab;unfold zkv jP;show SatR _ _;rw[<- ag];refine ztf ah (by rw[ag];exact qq evE e2) (by omega) (by omega) fun q1 c1 U oU gU cx=>?_;have az:=qb (zb ab an) ah (by decide) gU;have av:=qb (zb (am.trans (ab.mono sT)) f0) ah (by decide) gU;have b4:=qb (zb (am.trans (ab.mono sT)) fD) ah (by decide) gU;refine zn k72 az (o:=0+0) (v := .slice q1 ((x.ev++zdg k (y.1.ev.take j))++[e2]).length c1) rfl rfl (by rw[lap,zM];decide) rfl fun S fS gS sS=>?_;have a6:(x.ev++zdg k (y.1.ev.take j))++[e2]=x.ev++zdg k (y.1.ev.take (j+1)):=(by rw[ar,ch,KH]);rw[show 0+0=0 from rfl,zru,a6] at fS;refine nxI (by omega) ⟨(j+1,q1,c1),(cvE rfl rfl),⟨af,fS,by rw[a6] at oU;exact qc oU az (by decide) gS,(gS.block L (hlt av) (by simp;omega)).trans av,(gS.block D (hlt b4) (by simp;omega)).trans b4,?_⟩,zdc (by omega)⟩;have sU:=gU.size;exact((ae.trans ((am.trans (ab.mono sT)).mono sV)).trans (qB ah (by omega) (UN _) gU)).trans (zm gS (by omega) (by omega))
   ·have hc:¬(j:Int)<(y.1.ev.length:Int):=dF hc;obtain rfl:j=y.1.ev.length:=(by omega);rw[Qn] at fM ho;obtain⟨x1,ak⟩:∃x1:ExD,x1={ x with ev:=x.ev++zdg k y.1.ev }:=⟨_,rfl⟩;rw[<- ak] at fM;have b0:=fM;have ds:=ho;have bw:=f0;have bq:=fD;have b8:=ae;have cf:=hS;obtain⟨x2,a4⟩:∃z:ExD,z={ x1 with dt:=zkq x.ev.length y.1.data x.dt }:=⟨_,rfl⟩;obtain⟨A1,Z1,db,ck⟩:=zlN x1 q c [zR,zR,zR];have a0:x1.dt=x.dt:=(by rw[ak]);have du:RelAt V M 148 92 A1 Z1 x.dt:=⟨db,by
     have h:=ck x1.dt;rw[a0] at h;rw[<- h,<- a0];exact b0⟩
    have ce:Bw V V.drew:=(UR _ _).drew;refine DrawE.ord [6] [0,1,2,3,4,5,6] (by kernel_rfl) ⟨.slice y.2.2.1.1 y.1.data.length y.2.2.1.2,zc (za (hdr bq)) (i:=1) rfl,cmo (zn1 (f:=x.ev.length) (du.same (Y:=V.drew) rfl) bk ((cf.dt).below ce) (fun a ha=>by have:=cf.lt a (.inl ha);omega) d8 (zbO b6 (by omega))) ?_⟩;rintro e V1 ⟨rfl,bv,dc⟩;have g1:V.grownBy V1 (some M):=zf (zi ce) dc;have ei:=g1.size;have cg:zaD V1 M x2 q c [zR,zR,zR]:=by
     have h:=bv.cells;rw[<- ck] at h;rw[a4];exact h
    have al:=qc ds b0 (by decide) g1;have cb:=(g1.block L (hlt bw) (by simp;omega)).trans bw;have bn:=(g1.block D (hlt bq) (by simp;omega)).trans bq;have ab:Bw w V1:=b8.trans (zm g1 b8.size (by omega));have c8:=(hPs y ap).below ab;obtain⟨x3,bm⟩:∃z:ExD,z={ x2 with ct:=zkq x.ev.length y.1.ctrl x.ct }:=⟨_,rfl⟩;obtain⟨A2,Z2,dg,c5⟩:=zlO x2 q c [zR,zR,zR];have a1:x2.ct=x.ct:=(by rw[a4];rw[ak]);have d6:RelAt V1 M 197 92 A2 Z2 x.ct:=⟨dg,by
     have h:=c5 x2.ct;rw[a1] at h;rw[<- h,<- a1];exact cg⟩
    have b7:Bw V1 V1.drew:=(UR _ _).drew;refine DrawE.ord [6] [0,1,2,3,4,5,6] (by kernel_rfl) ⟨.slice y.2.2.2.1.1 y.1.ctrl.length y.2.2.2.1.2,zc (za (hdr bn)) (i:=2) rfl,cmo (zn1 (f:=x.ev.length) (d6.same (Y:=V1.drew) rfl) bh ((c8.ct).below b7) (fun a ha=>by have:=c8.lt a (.inr (.inl ha));omega) dn (zbO ca (by omega))) ?_⟩;rintro e V2 ⟨rfl,cq,dd⟩;have g2:V1.grownBy V2 (some M):=zf (zi b7) dd;have el:=g2.size;have an:zaD V2 M x3 q c [zR,zR,zR]:=by
     have h:=cq.cells;rw[<- c5] at h;rw[bm];exact h
    have bc:=qc al cg (by decide) g2;have cj:=(g2.block L (hlt cb) (by simp;omega)).trans cb;have bu:=(g2.block D (hlt bn) (by simp;omega)).trans bn;have bb:Bw w V2:=ab.trans (zm g2 ab.size (by omega));have cv:=(hPs y ap).below bb;obtain⟨x4,cz⟩:∃z:ExD,z={ x3 with rm:=zkq x.ev.length y.1.rmw x.rm }:=⟨_,rfl⟩;obtain⟨A3,Z3,d0,cr⟩:=zlL x3 q c [zR,zR,zR];have ax:x3.rm=x.rm:=(by rw[bm];rw[a4];rw[ak]);have dy:RelAt V2 M 246 92 A3 Z3 x.rm:=⟨d0,by
     have h:=cr x3.rm;rw[ax] at h;rw[<- h,<- ax];exact an⟩
    have b5:Bw V2 V2.drew:=(UR _ _).drew;refine DrawE.ord [6] [0,1,2,3,4,5,6] (by kernel_rfl) ⟨.slice y.2.2.2.2.1 y.1.rmw.length y.2.2.2.2.2,zc (za (hdr bu)) (i:=3) rfl,cmo (zn1 (f:=x.ev.length) (dy.same (Y:=V2.drew) rfl) br ((cv.rm).below b5) (fun a ha=>by have:=cv.lt a (.inr (.inr ha));omega) d3 (zbO c4 (by omega))) ?_⟩;rintro e V3 ⟨rfl,bz,dq⟩;have g3:V2.grownBy V3 (some M):=zf (zi b5) dq;have ej:=g3.size;have cy:zaD V3 M x4 q c [zR,zR,zR]:=by
     have h:=bz.cells;rw[<- cr] at h;rw[cz];exact h
    have ah:=qc bc an (by decide) g3;have cn:=(g3.block L (hlt cj) (by simp;omega)).trans cj;have cs:=(g3.block D (hlt bu) (by simp;omega)).trans bu;have bf:Bw w V3:=bb.trans (zm g3 bb.size (by omega));have eb:=(hPs y ap).below bf;have d7:zis x k y.1={ x4 with regs:=fun i=>if i/8=k then y.1.regs (i%8) else x4.regs i }:=(by rw[cz,bm,a4,ak];rfl);obtain⟨A5,Z5,a9,au⟩:=zqA x4 q c [zR,zR,zR];have ao:exC x4 q c++[zR,zR,zR]=A5++(seg 32 (fun i=>u8 (x4.regs i))++Z5):=au x4.regs;have bo:V3.heap[M]?=some (.cells (A5++(seg 32 (fun i=>u8 (x4.regs i))++Z5)).toArray 92 (0,0)):=(by rw[<- ao];exact cy);have cw:((ji.enc y).drop 4).take 8=seg 8 (fun i=>u8 (y.1.regs i)):=JB (by rw[Qk,ji.len];decide);refine DrawE.ord [8] [0,1,2,3,4,5,6,7,8] (by kernel_rfl) ⟨seg 8 (fun i=>u8 (y.1.regs i)),zy _ _,by rw[<- cw];have:=zI (n:=4) (m:=8) (za (hdr cs));exact this,hlt (hdr cs),k,rfl,by omega,?_⟩;refine jp k48 (hdr bo) (o:=295+k*8) (v := .agg (seg 8 (fun i=>u8 (y.1.regs i))).toArray) (zy _ _) (by show 295+k*8+(seg 8 _).length<=(A5++(seg 32 _++Z5)).length;rw[<- ao,lap,zM,zy];show _<=336;omega) (zaW fun _=>rfl) fun S fS gS sS=>?_;obtain⟨x5,aj⟩:=nm (zis x k y.1);have fS:zaD S M x5 q c [zR,zR,zR]:=by
     refine fS.trans ?_;have e1:=zi0 (A:=A5) (Z:=Z5) (l:=seg 32 (fun i=>u8 (x4.regs i))) (r:=seg 8 (fun i=>u8 (y.1.regs i))) (o:=k*8) (m:=8) a9 (by rw[zy];omega) (zy _ _);rw[znL (by omega)] at e1;rw[aj,d7,au,<- e1];show some (Obj.cells ((A5++(seg 32 (fun i=>u8 (x4.regs i))++Z5)).take (295+k*8)++seg 8 (fun i=>u8 (y.1.regs i))++(A5++(seg 32 (fun i=>u8 (x4.regs i))++Z5)).drop (295+k*8+(seg 8 (fun i=>u8 (y.1.regs i))).length)).toArray _ _)=_;rw[zy]
    have d1:Bw V3 V3.drew:=(UR _ _).drew;have g4:V3.grownBy S (some M):=zf (zi d1) gS;have ai:x5.ev=x.ev++zdg k y.1.ev:=(by rw[aj];rfl);have d9:x1.ev=x5.ev:=(by rw[ak,ai]);have bl:x5.ev.length=x.ev.length+y.1.ev.length:=(by rw[ai,lap];unfold zdg;rw[QD]);refine nxI (by omega) ⟨(k+1,x5,q,c),(cvE rfl rfl),⟨aa,by rw[aj];exact g,by rw[bl];exact t,?_,fun e he hk=>?_,fS,?_,(g4.block L (hlt cn) (by simp;omega)).trans cn,bf.trans (zm g4 bf.size (by omega))⟩,zdc (by omega)⟩
    ·rw[aj];exact⟨zdT bk (zbO b6 (by omega)),zdT bh (zbO ca (by omega)),zdT br (zbO c4 (by omega))⟩
    ·have he:e∈x5.ev:=he;rw[ai] at he;rcases QH.1 he with he | he
     ·exact ac e he hk
     ·unfold zdg at he;obtain⟨e',dp,rfl⟩:=Uz.1 he;exact b3 e' dp hk
    ·show OwnS evE 80 w.heap.size S q c x5.ev;rw[ai];exact qc ah cy (by decide) g4
  ·have hc:¬(k:Int)<(Ps.length:Int):=dF hc;rw[Jv (by rw[QD];omega)] at g t;have g:x=asR 0 (Ps.map (·.1)) x0:=g;have t:x.ev.length=N:=t;rw[<- g];exact⟨(q,c),(cvE rfl rfl),fM,ho,t,ac,f0,d⟩
 clear fM ho f0 b;rintro⟨q,c⟩ X ⟨fM,ho,dh,ac,f0,b⟩;dsimp only at fM ho ⊢;obtain⟨AX,cm⟩:=nm (asR 0 (Ps.map (·.1)) x0);rw[<- cm] at fM ho dh ac;obtain⟨BX,a3⟩:∃BX:ExD,BX={ AX with po:=poR AX.ev }:=⟨_,rfl⟩;have bg:zpa init (Ps.map (·.1))=BX:=by
  rw[a3,cm,a2,hN];rfl
 rw[bg];refine⟨Unit,fun _=>⟨[(0,At0 bP),(1,.slice pp Ps.length cp),(4,At0 L),(9,At0 M),(10,At0 M)],[]⟩,fun _ X=>zaD X M BX q c [zR,zR,zR]/\OwnS evE 80 w.heap.size X q c BX.ev/\X.heap[L]?=some (.cells (zcm).toArray 92 (0,0))/\Bw w X,?_,?_⟩
 ·refine⟨_,zb4 fM,cmo (zcx ho.row (by omega)) ?_⟩;rintro e Y ⟨rfl,d⟩;have c0:=zb d fM;obtain⟨A5,Z5,a9,au⟩:=zlM AX q c [zR,zR,zR];have ao:exC AX q c++[zR,zR,zR]=A5++(zd AX.po++Z5):=au AX.po;have bo:Y.heap[M]?=some (.cells (A5++(zd AX.po++Z5)).toArray 92 (0,0)):=by rw[<- ao];exact c0
  refine jp k76 bo (o:=0+1) (v := .agg (zd (poR AX.ev)).toArray) (ze _) (by show 0+1+(zd _).length<=(A5++(zd AX.po++Z5)).length;rw[<- ao,lap,zM,ze];decide) (zD _) fun S fS gS sS=>?_;have fS:zaD S M BX q c [zR,zR,zR]:=by
   refine fS.trans ?_;have e1:=zi0 (A:=A5) (Z:=Z5) (l:=zd AX.po) (r:=zd (poR AX.ev)) (o:=0) (m:=49) a9 (by rw[ze];omega) (ze _);rw[a3,au];have e2:(zd AX.po).take 0++zd (poR AX.ev)++(zd AX.po).drop (0+49)=zd (poR AX.ev):=by
    rw[Uf,QJ,Jv (by rw[ze];omega),QA]
   rw[e2] at e1;rw[<- e1];show some (Obj.cells ((A5++(zd AX.po++Z5)).take (0+1)++zd (poR AX.ev)++(A5++(zd AX.po++Z5)).drop (0+1+(zd (poR AX.ev)).length)).toArray _ _)=_;rw[ze]
  have bx:=hlt f0;have a5:=zst b d;exact⟨(),(cvE rfl rfl),fS,by rw[a3];exact qc (ho.below d) c0 (by decide) gS,(gS.block L (hlt (zb d f0)) (by simp;omega)).trans (zb d f0),a5.trans (zm gS a5.size (by omega))⟩
 have b9:BX.ev=AX.ev:=by rw[a3]
 clear fM ho f0 b;rintro _ X ⟨fM,ho,f0,b⟩;refine⟨List Value,fun _=>⟨[(0,At0 bP),(1,.slice pp Ps.length cp),(4,At0 L),(9,At0 M),(10,At0 M)],[]⟩,fun vs X=>X.heap[M]?=some (.cells vs.toArray 92 (0,0))/\ztj w.heap.size X vs (jM BX init.length)/\X.heap[L]?=some (.cells (zcm).toArray 92 (0,0))/\Bw w X,?_,?_⟩
 ·refine⟨_,ba b h1,?_⟩;have dv:∀a,q=some a->a.block≠M:=fun a ha e=>by
   obtain⟨_,_,ee,h'⟩:=zx ho ha;rw[e,fM] at h';simp at h'
  refine cmo (zm7 fM ho.row dv (by rw[b9];omega) (by omega) (by rw[b9];exact ac)) ?_;rintro e Y ⟨rfl,⟨p1,p2,p3,c1,c2,c3,xs,ys,fY,dz,d2,dj,dr,dx,de,dm⟩,gY⟩;have aw:=b.size;refine⟨_,(cvE rfl rfl),fY,⟨q,p1,p2,p3,c,c1,c2,c3,xs,ys,rfl,qc ho fM (by decide) gY,dz.lower aw,d2,dj.lower aw,fun y hy=>(dr y hy).lower aw,dx,de.lower aw,fun y hy=>(dm y hy).lower aw⟩,(gY.block L (hlt f0) (by simp;omega)).trans f0,b.trans (zm gY b.size (by omega))⟩
 clear fM ho f0 b;rintro vs X ⟨fM,hv,f0,b⟩;have bd:vs.length=336:=by
  obtain⟨q,p1,p2,p3,c,c1,c2,c3,xs,ys,e,_⟩:=hv;rw[e,lap,zM];rfl
 have da:vs.all Value.oneCell'=true:=by
  obtain⟨q,p1,p2,p3,c,c1,c2,c3,xs,ys,e,_⟩:=hv;rw[e,Qz,zbt];rfl
 refine⟨vs,bd,za fM,hlt fM,zo (v := .agg vs.toArray) k92 f0 bd jG da ⟨vs,bd,za (zk f0),⟨vs,rfl,?_⟩,zh b (by omega) _⟩⟩;obtain⟨q,p1,p2,p3,c,c1,c2,c3,xs,ys,e,k1,k2,k3,k4,k5,k6,k7,k8⟩:=hv;have kp:∀{α:Type} {E:Enc α} {T cc:Nat} {r:OA} {ll:List α},T≠92->OwnS E T w.heap.size X r cc ll->OwnS E T w.heap.size (X.setRow L vs.toArray) r cc ll:=fun{α E T cc r ll} hT h=>qc h f0 hT (qp X L _);exact⟨q,p1,p2,p3,c,c1,c2,c3,xs,ys,e,kp (by decide) k1,kp (by decide) k2,k3,kp (by decide) k4,fun y hy=>kp (by decide) (k5 y hy),k6,kp (by decide) k7,fun y hy=>kp (by decide) (k8 y hy)⟩
end
structure ExV (w:Wd) (x:ExD) (q:OA):Prop where
 ev:SlR evE w q x.ev
 n:x.ev.length<=20
 po:zG x.po.to
 rf:zG x.rf.to
 co:zG x.co.to
 dt:zG x.dt.to
 ct:zG x.ct.to
 rm:zG x.rm.to
structure ExW (w:Wd) (x:ExD) (q:OA):Prop where
 ev:SlR evE w q x.ev
 n:x.ev.length<=48
 w20:∀l,(zbI x l).length<=20
 po:zG x.po.to
 rf:zG x.rf.to
 co:zG x.co.to
 dt:zG x.dt.to
 ct:zG x.ct.to
 rm:zG x.rm.to
theorem ExV.w{w:Wd}{x:ExD}{q:OA}(h:ExV w x q):ExW w x q:=by
 refine⟨h.ev,by have:=h.n;omega,fun l=>?_,h.po,h.rf,h.co,h.dt,h.ct,h.rm⟩;have a:(zbI x l).length<=x.ev.length:=by
  refine UC (JH ..) ?_;rw[KN];exact UN _
 have:=h.n;omega
theorem ExW.below{w w2:Wd}{x:ExD}{q:OA}(h:ExW w x q)(hb:Bw w w2):ExW w2 x q:=⟨h.ev.below hb,h.n,h.w20,h.po,h.rf,h.co,h.dt,h.ct,h.rm⟩
theorem ExV.below{w w2:Wd}{x:ExD}{q:OA}(h:ExV w x q)(hb:Bw w w2):ExV w2 x q:=⟨h.ev.below hb,h.n,h.po,h.rf,h.co,h.dt,h.ct,h.rm⟩
theorem zbF{w:Wd}{q:OA}{l:List Ev}(h:SlR evE w q l){i:Nat}(hi:i<l.length):∃b o,q=some ⟨b,o,none⟩/\b<w.heap.size/\zF w ⟨b,o+i*7,none⟩ (evE.enc (l.getD i ev0)):=by
 obtain⟨b,o,c,d,a⟩:=h.at hi;refine⟨b,o,c,d,?_⟩;rw[gDe,gE hi];exact a i hi
theorem ztr:TyEq PG 73 false 1 1 (fun cs=>∃x,cs=[.int .u64 x]) := .int Tryz.underlying73 (fun w=>Tryz.isAgg73 w) (qr (by kernel_rfl) (by kernel_rfl)).1 (by kernel_rfl)
theorem zsV:TyEq PG 3 false 1 1 (fun cs=>∃x,cs=[.int .i64 x]) := .int Tryz.underlying3 (fun w=>Tryz.isAgg3 w) (qr (by kernel_rfl) (by kernel_rfl)).1 (by kernel_rfl)
theorem zsS:∃G,TyEq PG 74 true 48 2 G/\∀f:Nat->Nat,G (zan f):=by
 refine⟨_,.array (m:=48) (by decide) Tryz.underlying74 (fun w=>Tryz.isAgg74 w) (qr (by kernel_rfl) (by kernel_rfl)).1 (by kernel_rfl) ztr,fun f i b=>⟨(f i:Nat),?_⟩⟩;unfold zX;have h:=zb3 f b;rw[UO];have a:i<(zan f).length:=by rw[zaH];exact b
 rw[<- JA a,List.take_succ_cons,Uf];rw[gE a] at h;rw[QV h];rfl
theorem zsT:∃G,TyEq PG 76 true 49 3 G/\∀r:RelD,G (zd r):=by
 obtain⟨G,b,a⟩:=zsS;refine⟨_,.struct (uf Tryz.underlying76).1 (by kernel_rfl) (fun w=>Tryz.isAgg76 w) (qr (by kernel_rfl) (by kernel_rfl)).1 (by kernel_rfl)
  (by rw[(uf Tryz.underlying76).2];exact .cons (by decide) rfl (zsV.up 1) (.cons (by decide) rfl b .nil)),fun r=>?_⟩
 exact⟨⟨_,rfl⟩,by have:=a r.to;have e:((zd r).drop 1).take 48=zan r.to:=JB (by rw[show(zd r).drop 1=zan r.to from rfl,zaH];decide);rw[e];exact this,trivial⟩
theorem zmu{a b:RelD}:zd a=zd b↔zbN a b=true:=by
 unfold zbN;rw[bAT,dE,Qa];constructor
 ·intro h;have e:i64 a.n=i64 b.n:=Js h;have d:zan a.to=zan b.to:=List.tail_eq_of_cons_eq h;refine⟨by injection e,fun i c=>Uh ?_⟩;have c:=Ue.1 c;have f:=zb3 a.to c;rw[d,zb3 b.to c] at f;have g:=QV f;unfold s64 at g;injection g with _ h5;omega
 ·rintro⟨e,d⟩;unfold zd zan;rw[e];congr 1;refine Kf fun i c=>?_;rw[dT (d i c)]
theorem zlQ(x y:Operand)(a b:RelD)(w:Wd):(do eqGuard .eql 76 x y (.agg (zd a).toArray) (.agg (zd b).toArray);binOp .eql 76 (.agg (zd a).toArray) (.agg (zd b).toArray)).run PG w = .ok (.bool (zbN a b)) w:=by
 obtain⟨G,d,c⟩:=zsT;have:=zih d 9997 rfl (by kernel_rfl) (ze a) (ze b) (c a) (c b) x y w;rw[this,zbU zmu,Bool.decide_eq_true]
theorem ztt:∃G,TyEq PG 80 true 7 2 G/\∀e:Ev,G (evE.enc e):=by
 refine⟨_,.struct (uf Tryz.underlying80).1 (by kernel_rfl) (fun w=>Tryz.isAgg80 w) (qr (by kernel_rfl) (by kernel_rfl)).1 (by kernel_rfl)
  (by rw[(uf Tryz.underlying80).2];exact .cons (by decide) rfl zsV (.cons (by decide) rfl tU8 (.cons (by decide) rfl tU8 (.cons (by decide) rfl tU8 (.cons (by decide) rfl tU8 (.cons (by decide) rfl tU8 (.cons (by decide) rfl tU8 .nil))))))),fun e=>?_⟩
 exact⟨⟨_,rfl⟩,⟨_,rfl⟩,⟨_,rfl⟩,⟨_,rfl⟩,⟨_,rfl⟩,⟨_,rfl⟩,⟨_,rfl⟩,trivial⟩
theorem zmT{a b:Ev}:evE.enc a=evE.enc b↔a=b:=by
 constructor
 ·intro h;obtain⟨e,k,i,p,g,j,n⟩:=a;obtain⟨d,r,f,q,o,l,m⟩:=b;have h:[i64 e,u8 k,u8 i,u8 p,u8 g,u8 j,u8 n]=[i64 d,u8 r,u8 f,u8 q,u8 o,u8 l,u8 m]:=h;simp only[QB,UX,u8,Value.int.injEq,true_and,qm] at h;obtain⟨c,rfl,rfl,rfl,rfl,rfl,rfl⟩:=h;have c:e=d:=by injection c
  rw[c]
 ·rintro rfl;rfl
theorem zrT(x y:Operand)(a b:Ev)(w:Wd):(do eqGuard .neq 80 x y (.agg (evE.enc a).toArray) (.agg (evE.enc b).toArray);binOp .neq 80 (.agg (evE.enc a).toArray) (.agg (evE.enc b).toArray)).run PG w = .ok (.bool (!decide (a=b))) w:=by
 obtain⟨G,d,c⟩:=ztt;have:=zof d 9998 rfl (by kernel_rfl) (a:=evE.enc a) (b:=evE.enc b) rfl rfl (c a) (c b) x y w;rw[this,zbU zmT]
theorem zdt:∀(ev:List Ev) (k:Nat),(∀j,j<k->(ev.getD j ev0).th = -1)->k<=ev.length->zab ev=k+zab (ev.drop k)
 | ev,0,_,_=>by rw [Uc,UH]
 | [],k+1,_,h=>by simp at h
 | e::ev,k+1,hj,h=>by
  have d:e.th = -1:=hj 0 (by omega);have a:=zdt ev k (fun j b=>hj (j+1) (by omega)) (by simpa using h);unfold zab at a ⊢;rw[Ki,Gd (Uh d),Qj,a,List.drop_succ_cons];omega
section
variable{q:OA}{c:Nat}{ev:List Ev}{w:Wd}
theorem zkJ(hl:SlR evE w q ev)(hn:ev.length<=1000):CB 54 #[.slice q ev.length c] w (i64 (zab ev:Nat)):=by
 refine zC 19 [.slice q ev.length c] Tryz.func54 ?_;refine⟨Nat,fun k=>⟨[(0,.slice q ev.length c),(5,.slice q ev.length c),(6,i64 ev.length),(7,i64 (k:Nat))],[]⟩,fun k X=>k<=ev.length/\(∀j,j<k->(ev.getD j ev0).th = -1)/\Bw w X,fun k=>ev.length-k,0,(cvE rfl rfl),⟨UP _,fun j h=>by omega,UR _ _⟩,?_⟩;rintro k X ⟨hk,n,d⟩;dsimp only;have p:=d.size;refine biE (fun l=>?_) fun l=>?_
 ·have l:(k:Int)<(ev.length:Int):=dT l;have a:k<ev.length:=by omega
  obtain⟨b,o,rfl,hb,g⟩:=zbF (hl.below d) a;obtain⟨e,t⟩:=nm (ev.getD k ev0);rw[<- t] at g;refine⟨k,rfl,a,evE.enc e,rfl,g,hb,zr (X:=X) (v := .agg (evE.enc e).toArray) k80 rfl rfl (Qa.2 fun u hu=>evE.one e u hu) fun Y r s sY=>?_⟩;have s:Y.heap[X.heap.size]?=some (.cells (evE.enc e).toArray 80 (0,0)):=s;refine⟨i64 e.th,zc (za s) (i:=0) rfl,?_⟩;have f:=d.trans (r.mono p);refine biE (fun h=>?_) fun h=>?_
  ·have h:(!decide (e.th = -1))=true:=h;have h:¬e.th = -1:=by simpa using h
   refine⟨?_,f⟩;have m:=zdt ev k n hk;have z:zab (ev.drop k)=0:=by
    unfold zab;have h4:ev[k]=e:=(by rw[t,gDe,gE a];rfl);rw[<- JA a,Ki,h4,Gc (by simpa using h)];rfl
   rw[z] at m;exact ri (by omega)
  ·have h:(!decide (e.th = -1))=false:=h;have h:e.th = -1:=by simpa using h
   refine nxI (by omega) ⟨k+1,(cvE rfl rfl),⟨a,fun j x=>?_,f⟩,zdc (by omega)⟩;by_cases y:j=k
   ·rw[y,<- t];exact h
   ·exact n j (by omega)
 ·have l:¬(k:Int)<(ev.length:Int):=dF l;obtain rfl:k=ev.length:=by omega
  refine⟨?_,d⟩;have m:=zdt ev ev.length n (UN _);rw[Qd] at m;exact ri (by rw[m];show((ev.length:Nat):Int)=((ev.length+0:Nat):Int);rfl)
theorem zo5{i:Nat}{v:UInt8}:zdb (zhW [(0,1,false),(1,1,false),(2,1,false),(3,1,false),(4,1,false),(5,1,false),(6,1,false)]) (evE.enc ev0) [(0,i64 (-1)),(1,u8 2),(2,u8 (UInt8.ofNat i)),(3,u8 v)]=some (evE.enc ⟨-1,2,UInt8.ofNat i,v,0,0,0⟩):=rfl
theorem zgV{locs:Nat}(hl:SlR evE w q ev)(hn:ev.length<=1000)(hlo:locs<=1000):CB 55 #[.slice q ev.length c,i64 locs] w (.bool (ju ev locs)):=by
 refine zC 69 [.slice q ev.length c,i64 locs] Tryz.func55 ?_;refine⟨Nat×Int×Nat,fun s=>⟨[(1,i64 locs),(5,i64 s.2.1),(6,i64 (s.2.2:Nat)),(9,.slice q ev.length c),(10,i64 ev.length),(11,i64 (s.1:Nat))],[]⟩,fun s X=>s.1<=ev.length/\s.2.2<=s.1/\zjw locs s.1 (ev.drop s.1) s.2.1 s.2.2=ju ev locs/\Bw w X,fun s=>ev.length-s.1,(0,0,0),(cvE rfl rfl),⟨UP _,UN _,rfl,UR _ _⟩,?_⟩;rintro⟨k,t,m⟩ X ⟨hk,hm,a,aa⟩;dsimp only at hk hm a ⊢;have ac:=aa.size;refine biE (fun hc=>?_) fun hc=>?_
 ·have hc:(k:Int)<(ev.length:Int):=dT hc;have r:k<ev.length:=by omega
  obtain⟨b,o,rfl,hb,ab⟩:=zbF (hl.below aa) r;obtain⟨e,he⟩:=nm (ev.getD k ev0);rw[<- he] at ab;have hdr:ev.drop k=e::ev.drop (k+1):=by
   rw[<- JA r,he,gDe,gE r];rfl
  rw[hdr] at a;unfold zjw at a;refine⟨k,rfl,r,evE.enc e,rfl,ab,hb,zr (X:=X) (v := .agg (evE.enc e).toArray) k80 rfl rfl (Qa.2 fun u hu=>evE.one e u hu) fun Y ad fY sY=>?_⟩;have fY:Y.heap[X.heap.size]?=some (.cells (evE.enc e).toArray 80 (0,0)):=fY;have f:=aa.trans (ad.mono ac);have y:∀{i:Nat} {v:Value},(evE.enc e)[i]?=some v->Y.cell? ⟨X.heap.size,0+i,none⟩=some v:=fun h=>zc (za fY) h;have no:ju ev locs=false->(Ending.returned (.bool false)=Ending.returned (.bool (ju ev locs))/\Bw w Y):=fun h=>⟨rb h.symm,f⟩;refine biE (fun h=>?_) fun h=>?_
  ·have h:(k:Int)<(locs:Int):=dT h;rw[Gd (by omega:k<locs)] at a;refine⟨evE.enc e,rfl,za fY,hlt fY,_,w8N k,u8 e.v,y (i:=3) rfl,evE.enc ⟨-1,2,UInt8.ofNat k,e.v,0,0,0⟩,zo5,_,fun w=>zrT _ _ e _ w,biE (fun h2=>?_) fun h2=>?_⟩
   ·have h2:¬e=⟨-1,2,UInt8.ofNat k,e.v,0,0,0⟩:=(by simpa using h2);rw[Gc h2] at a;exact no a.symm
   ·have h2:e=⟨-1,2,UInt8.ofNat k,e.v,0,0,0⟩:=(by simpa using h2);rw[Gd h2] at a;exact nxI (by omega) ⟨(k+1,t,m),(cvE rfl rfl),⟨r,by show m<=k+1;omega,a,f⟩,zdc (by omega)⟩
  ·have h:¬(k:Int)<(locs:Int):=dF h;rw[Gc (by omega:¬k<locs)] at a;refine⟨i64 e.th,y (i:=0) rfl,biE (fun h1=>?_) fun h1=>?_⟩
   ·have h1:e.th<t:=dT h1;refine brT ?_;rw[Gd (.inl h1)] at a;exact no a.symm
   have h1:¬e.th<t:=dF h1;refine⟨i64 e.th,y (i:=0) rfl,biE (fun h2=>?_) fun h2=>?_⟩
   ·have h2:4<=e.th:=dT h2;rw[Gd (.inr h2)] at a;exact no a.symm
   have h2:¬4<=e.th:=dF h2;rw[Gc (by rintro(h | h);exact h1 h;exact h2 h)] at a;refine⟨i64 e.th,y (i:=0) rfl,biE (fun h9=>?_) fun h9=>?_⟩
   ·have h9:t<e.th:=dT h9;dsimp only at a;rw[Gd h9,Gd h9] at a;refine⟨i64 e.th,y (i:=0) rfl,u8 e.p,y (i:=6) rfl,(e.p.toNat:Int),qu _,biE (fun j=>?_) fun j=>?_⟩
    ·have j:¬e.p.toNat=0:=by
      have j:(!decide ((e.p.toNat:Int)=(0:Nat)))=true:=j;simpa using j
     rw[Gc j] at a;exact no a.symm
    have j:e.p.toNat=0:=by
     have j:(!decide ((e.p.toNat:Int)=(0:Nat)))=false:=j;simpa using j
    rw[Gd j] at a;refine⟨((0+1:Nat):Int),(zg (by omega)).trans (by omega),u8 e.k,y (i:=1) rfl,biE (fun z=>?_) fun z=>?_⟩
    ·refine brE z ?_;have z:e.k=1:=qm.1 (dT z);rw[Gd (.inl z)] at a;refine⟨u8 e.l,y (i:=2) rfl,(e.l.toNat:Int),qu _,biE (fun d=>?_) fun d=>?_⟩
     ·have d:(locs:Int)<=(e.l.toNat:Int):=dT d;rw[Gc (by omega)] at a;exact no a.symm
     ·have d:¬(locs:Int)<=(e.l.toNat:Int):=dF d;rw[Gd (by omega)] at a;exact nxI (by omega) ⟨(k+1,e.th,0+1),(cvE rfl rfl),⟨r,by show 0+1<=k+1;omega,a,f⟩,zdc (by omega)⟩
    have z:¬e.k=1:=fun x=>(dF z) (by rw[x];rfl);refine biE (fun d=>?_) fun d=>?_
    ·have d:e.k=2:=qm.1 (dT d);rw[Gd (.inr d)] at a;refine⟨u8 e.l,y (i:=2) rfl,(e.l.toNat:Int),qu _,biE (fun d=>?_) fun d=>?_⟩
     ·have d:(locs:Int)<=(e.l.toNat:Int):=dT d;rw[Gc (by omega)] at a;exact no a.symm
     ·have d:¬(locs:Int)<=(e.l.toNat:Int):=dF d;rw[Gd (by omega)] at a;exact nxI (by omega) ⟨(k+1,e.th,0+1),(cvE rfl rfl),⟨r,by show 0+1<=k+1;omega,a,f⟩,zdc (by omega)⟩
    have d:¬e.k=2:=fun x=>(dF d) (by rw[x];rfl);rw[Gc (by rintro(h | h);exact z h;exact d h)] at a;refine biE (fun h6=>?_) fun h6=>?_
    ·have h6:e.k=3:=qm.1 (dT h6);rw[Gd h6] at a;refine⟨u8 e.l,y (i:=2) rfl,biE (fun g=>?_) fun g=>?_⟩
     ·have g:¬e.l=0:=by
       have g:(!decide ((e.l.toNat:Int)=0))=true:=g;intro x;rw[x] at g
       cases g
      refine brT ?_;rw[Gc fun h=>g h.1] at a;exact no a.symm
     ·have g:e.l=0:=by
       have g:(!decide ((e.l.toNat:Int)=((0:UInt8).toNat:Int)))=false:=g;exact qm.1 (by simpa using g)
      refine⟨u8 e.v,y (i:=3) rfl,biE (fun n=>?_) fun n=>?_⟩
      ·have n:¬e.v=0:=by
        have n:(!decide ((e.v.toNat:Int)=0))=true:=n;intro x;rw[x] at n
        cases n
       rw[Gc fun h=>n h.2] at a;exact no a.symm
      ·have n:e.v=0:=by
        have n:(!decide ((e.v.toNat:Int)=((0:UInt8).toNat:Int)))=false:=n;exact qm.1 (by simpa using n)
       rw[Gd ⟨g,n⟩] at a;exact nxI (by omega) ⟨(k+1,e.th,0+1),(cvE rfl rfl),⟨r,by show 0+1<=k+1;omega,a,f⟩,zdc (by omega)⟩
    ·have h6:¬e.k=3:=fun x=>(dF h6) (by rw[x];rfl);rw[Gc h6] at a;exact no a.symm
   ·have h9:¬t<e.th:=dF h9;dsimp only at a;rw[Gc h9,Gc h9] at a;refine⟨u8 e.p,y (i:=6) rfl,(e.p.toNat:Int),qu _,biE (fun j=>?_) fun j=>?_⟩
    ·have j:¬e.p.toNat=m:=by
      have j:(!decide ((e.p.toNat:Int)=(m:Nat)))=true:=j;intro x;rw[x] at j;simp at j
     rw[Gc j] at a;exact no a.symm
    have j:e.p.toNat=m:=by
     have j:(!decide ((e.p.toNat:Int)=(m:Nat)))=false:=j;have j:(e.p.toNat:Int)=(m:Nat):=(by simpa using j);omega
    rw[Gd j] at a;refine nxI (by omega) ⟨u8 e.k,y (i:=1) rfl,biE (fun z=>?_) fun z=>?_⟩
    ·refine brE z ?_;have z:e.k=1:=qm.1 (dT z);rw[Gd (.inl z)] at a;refine⟨u8 e.l,y (i:=2) rfl,(e.l.toNat:Int),qu _,biE (fun d=>?_) fun d=>?_⟩
     ·have d:(locs:Int)<=(e.l.toNat:Int):=dT d;rw[Gc (by omega)] at a;exact no a.symm
     ·have d:¬(locs:Int)<=(e.l.toNat:Int):=dF d;rw[Gd (by omega)] at a;exact nxI (by omega) ⟨(k+1,t,m+1),(cvE rfl rfl),⟨r,by show m+1<=k+1;omega,a,f⟩,zdc (by omega)⟩
    have z:¬e.k=1:=fun x=>(dF z) (by rw[x];rfl);refine biE (fun d=>?_) fun d=>?_
    ·have d:e.k=2:=qm.1 (dT d);rw[Gd (.inr d)] at a;refine⟨u8 e.l,y (i:=2) rfl,(e.l.toNat:Int),qu _,biE (fun d=>?_) fun d=>?_⟩
     ·have d:(locs:Int)<=(e.l.toNat:Int):=dT d;rw[Gc (by omega)] at a;exact no a.symm
     ·have d:¬(locs:Int)<=(e.l.toNat:Int):=dF d;rw[Gd (by omega)] at a;exact nxI (by omega) ⟨(k+1,t,m+1),(cvE rfl rfl),⟨r,by show m+1<=k+1;omega,a,f⟩,zdc (by omega)⟩
    have d:¬e.k=2:=fun x=>(dF d) (by rw[x];rfl);rw[Gc (by rintro(h | h);exact z h;exact d h)] at a;refine biE (fun h6=>?_) fun h6=>?_
    ·have h6:e.k=3:=qm.1 (dT h6);rw[Gd h6] at a;refine⟨u8 e.l,y (i:=2) rfl,biE (fun g=>?_) fun g=>?_⟩
     ·have g:¬e.l=0:=by
       have g:(!decide ((e.l.toNat:Int)=0))=true:=g;intro x;rw[x] at g
       cases g
      refine brT ?_;rw[Gc fun h=>g h.1] at a;exact no a.symm
     ·have g:e.l=0:=by
       have g:(!decide ((e.l.toNat:Int)=((0:UInt8).toNat:Int)))=false:=g;exact qm.1 (by simpa using g)
      refine⟨u8 e.v,y (i:=3) rfl,biE (fun n=>?_) fun n=>?_⟩
      ·have n:¬e.v=0:=by
        have n:(!decide ((e.v.toNat:Int)=0))=true:=n;intro x;rw[x] at n
        cases n
       rw[Gc fun h=>n h.2] at a;exact no a.symm
      ·have n:e.v=0:=by
        have n:(!decide ((e.v.toNat:Int)=((0:UInt8).toNat:Int)))=false:=n;exact qm.1 (by simpa using n)
       rw[Gd ⟨g,n⟩] at a;exact nxI (by omega) ⟨(k+1,t,m+1),(cvE rfl rfl),⟨r,by show m+1<=k+1;omega,a,f⟩,zdc (by omega)⟩
    ·have h6:¬e.k=3:=fun x=>(dF h6) (by rw[x];rfl);rw[Gc h6] at a;exact no a.symm
 ·have hc:¬(k:Int)<(ev.length:Int):=dF hc;obtain rfl:k=ev.length:=by omega
  rw[Qd] at a;exact⟨rb a,aa⟩
end
end Go.Proofs.YtakcdebpklffiaaGreatDoor
namespace Go.Vc
open Go.RowKit
def zpp {α:Type} (P:Program) (g:Nat) (lb:List Value) (xs:List α) (W0:Wd) (Rd:Nat->Prop) (St:List α->List Value->Wd->Prop) (Gv:List Value->Nat->Prop):Prop :=
 ∀(l:Nat) (F0:Nat->Prop) (J:List α->(Nat->Prop)->Wd->Prop) (W:Wd),W0.heap.size<=W.heap.size->(∀k,Rd k->W.heap[k]?=W0.heap[k]?)->(∀k,Rd k->¬F0 k) ->
  JG W.heap.size (fun _=>False) J ->
  (∀pre x vs F W1,J pre F W1->St (pre++[x]) vs W1->(∀k,Gv vs k->W.heap.size<=k)->(pre++[x]) <+: xs->YieldR P l vs.toArray W1 fun v W2 =>
   v = .bool true/\∃F',J (pre++[x]) F' W2/\KeepsG (fun k=>F k\/Gv vs k) F' W1 W2) ->
  J [] F0 W ->
  Calls P g (.func (.yield l) #[] #[]::lb).toArray W fun e W'=>(∃v,e = .returned v)/\∃F',J xs F' W'
theorem zrN{α:Type}{S:Sig}(hS:SigOk S)(hr:S.r=none){f:Operand}{ps:Array Tmp}{assign body:Code}{E:Env}{w:Wd}{Q:Exit->Env->Wd->Prop}
  {gf:Nat} {lb:Array Value} (hg:opd E f=some (.func (.func gf) #[] lb)) (hok:jh S gf=true)
  {xs:List α} {W0:Wd} {Rd:Nat->Prop} {St:List α->List Value->Wd->Prop} {Gv:List Value->Nat->Prop} (hI:zpp S.P gf lb.toList xs W0 Rd St Gv) (hGv:∀pre vs W k,St pre vs W->Gv vs k->∃cs t fr,W.heap[k]?=some (.cells cs t fr)) (hW0:W0.heap.size<=w.heap.size) (hRd:∀k,Rd k->k<W0.heap.size/\w.heap[k]?=W0.heap[k]?)
  (hps:∀pre vs W,St pre vs W->vs.length=ps.size) (hpn:∀p∈ps.toList,p<S.n)
  (F0:Nat->Prop) (J:List α->(Nat->Prop)->Wd->Prop) (hRF:∀k,Rd k->¬F0 k)
  (hJ:JG w.heap.size (fun _=>False) J) (h0:J [] F0 w)
  (hround:∀(l:Nat) (pre:List α) (x:α) (vs:List Value) (F:Nat->Prop) (W:Wd),w.heap.size<=l->(pre++[x]) <+: xs->J pre F W->St (pre++[x]) vs W->(∀k,Gv vs k->w.heap.size<=k)->¬F l->(∃lo,W.heap[l]?=some (.loop lo)) ->
   wpE (sr S l) assign ⟨zfN ps.toList vs E.vs,[]⟩ W fun ex E1 W1=>ex = .normal/\∃F1,KeepsG (fun k=>F k\/Gv vs k) F1 W W1/\J pre F1 W1 /\
    ∀o W2,W2=W1.putObj l o->J pre F1 W2->wpE (sr S l) body E1 W2 (zrx F1 J (fun _ _ _ _=>False) (pre++[x]) W2))
  (hdone:∀D F W,w.heap.size<=D->¬F D->J xs F W->W.heap[D]?=some (.deferred (some []))->Q .normal ⟨E.vs,{ target := .collected D,args := #[] }::E.ds⟩ W) :
  ziw S f ps assign body E w Q:=by
 intro a ha;have ao:∀args w,(callFunc gf args).run S.P w = .ok (.enter gf args) w:=by
  simp only[jh,bAT,US,UT] at hok;exact fun args w=>hS.call gf hok.1.1 hok.1.2 hok.2 args w
 refine wpIn_rangeFunc ?_;intro fn bl;have bj:(FR S.r).round=none:=hr;rw[bj];obtain⟨c,b⟩:∃c:LoopState->Option Code->Loop,c=fun st pe=>{ state:=st,pending:=pe,fn,tmps:=a.tmps,params:=ps,assign,body,defers:=w.heap.size }:=⟨_,rfl⟩;obtain⟨W1,ab⟩:∃W1,(w.alloc (.deferred (some []))).alloc (.loop (c .ready none))=W1:=⟨_,rfl⟩;have ba:=zw w (.deferred (some []));have bd:W1.heap[w.heap.size]?=some (.deferred (some [])):=by rw[<- ab];exact z6 _ ba
 have bf:W1.heap[w.heap.size+1]?=some (.loop (c .ready none)):=by
  rw[<- ab];have:=zw (w.alloc (.deferred (some []))) (.loop (c .ready none));rwa [wz] at this
 have bk:W1.heap.size=w.heap.size+2:=by rw[<- ab];simp
 have ah:Bw w W1:=by
  rw[<- ab];exact((zba w _)).alloc (by simp) _
 have bb:=hJ.step _ _ _ _ h0 (.below ah);have a2:∀k,F0 k->k<w.heap.size:=fun k i=>(hJ.lt _ _ _ k h0 i).1;refine⟨w.heap.size+1,[{ target := .collected w.heap.size,args := #[] }],W1,{ target := .fn (.func gf) lb,args := #[.func (.yield (w.heap.size+1)) #[] #[]] },W1,gf,
  #[.func (.yield (w.heap.size+1)) #[] #[]]++lb,W1,?_,?_,fun _ _=>trivial,?_,fun h=>by simp[FR] at h,?_⟩
 ·rw[<- ab,b];exact Kk _ _ _ _ _
 ·have bh:=ha.eval hg;simp only[resolve,bh];simp[go_sem]
 ·simp[invoke,go_sem,ao]
 ·have ak : #[Value.func (.yield (w.heap.size+1)) #[] #[]]++lb=(Value.func (.yield (w.heap.size+1)) #[] #[]::lb.toList).toArray:=by rw[<- KW];simp
  rw[ak];have a7:∀{σ:Type} {K:σ->(Nat->Prop)->Wd->Prop} (lo:Loop),JG w.heap.size (fun _=>False) K->JG W1.heap.size (fun _=>False) (fun s F W=>K s F W/\W.heap[w.heap.size+1]?=some (.loop lo)/\W.heap[w.heap.size]?=some (.deferred (some []))/\¬F (w.heap.size+1)/\¬F w.heap.size):=by
   intro σ K lo hK;exact⟨fun s F A B ⟨i,y,hd,q,z⟩ hs=>⟨hK.step s F A B i (hs.mono (by omega)),(hs.same _ (hlt y) (.inl ⟨by omega,fun h=>h⟩)).trans y,(hs.same _ (hlt hd) (.inl ⟨by omega,fun h=>h⟩)).trans hd,q,z⟩,fun s F A k ⟨i,_⟩ hf=>hK.lt s F A k i hf⟩
  have ae:=hI (w.heap.size+1) F0 (fun pre F W=>J pre F W/\W.heap[w.heap.size+1]?=some (.loop (c .ready none))/\W.heap[w.heap.size]?=some (.deferred (some []))/\¬F (w.heap.size+1)/\¬F w.heap.size)
   W1 (by omega) (fun k i=>by
    obtain⟨h1,j⟩:=hRd k i;rw[<- j];exact ah.block k (by omega)) hRF (a7 _ hJ) ?_ ⟨bb,bf,bd,fun h=>by have:=a2 _ h;omega,fun h=>by have:=a2 _ h;omega⟩
  ·refine zcd (ae.mono ?_);rintro e W2 ⟨⟨v,rfl⟩,F,hj,y,i,q,z⟩;have ac:=hJ.step _ _ _ _ hj (StepG.put (Ow:=fun _=>False) (o := .loop (c .exhausted none)) (n0:=w.heap.size) (l:=w.heap.size+1) (by omega) q);refine⟨none,_,by have:=UQ (P:=S.P) y (by rw[b];simp);rw[b] at this;exact this,?_⟩;rw[b] at ac;exact⟨⟨E.vs,{ target := .collected w.heap.size,args := #[] }::E.ds⟩,⟨ha.size,by simp[ha.defers],ha.val⟩,hdone w.heap.size F _ (UN _) z ac ((zj (by omega)).trans i)⟩
  ·rintro pre x vs F W ⟨hj,y,i,q,z⟩ m ax ar;have aw:¬(F (w.heap.size+1)\/Gv vs (w.heap.size+1)):=fun h=>h.elim q fun h=>by
    obtain⟨_,_,_,j⟩:=hGv _ _ _ _ m h;rw[y] at j;cases j
   have az:¬(F w.heap.size\/Gv vs w.heap.size):=fun h=>h.elim z fun h=>by
    obtain⟨_,_,_,j⟩:=hGv _ _ _ _ m h;rw[i] at j;cases j
   have hy:=run_yield (P:=S.P) (args:=vs.toArray) y (by rw[b];simpa using hps _ _ _ m);rw[b] at hy;refine⟨fn,_,assign,body,hy,zbn (r:=none) (n:=NN) (roundIn_of_wpIn (F:=FR none) trivial ?_)⟩;have bi:Agrees (sr S (w.heap.size+1)) { tmps:=(ps.zip vs.toArray).foldl (fun t (p,v)=>t.setIfInBounds p v) a.tmps,defers:=[] } ⟨zfN ps.toList vs E.vs,[]⟩:=by
    have h1:Agrees (sr S (w.heap.size+1)) { a with defers:=[] } ⟨E.vs,[]⟩:=⟨ha.size,rfl,ha.val⟩;have j:=zbm ps.toList vs _ _ h1 hpn;have e:(ps.zip vs.toArray).foldl (fun t (p,v)=>t.setIfInBounds p v) a.tmps=(ps.toList.zip vs).foldl (fun t (p,v)=>t.setIfInBounds p v) a.tmps:=by
     rw[<- Kl];simp
    rw[e];exact j
   have hw:=qx (zg4 hS _) assign _ _ W _ bi (hround (w.heap.size+1) pre x vs F W (by omega) ar hj m (fun k i=>by have:=ax k i;omega) q ⟨_,y⟩);refine UW hw ?_;rintro ex a1 Wa ⟨E1,aq,rfl,F1,d,a8,am⟩;have a6:=(d.same _ (hlt y) aw).trans y;have bc:=(d.same _ (hlt i) az).trans i;have aa:¬F1 (w.heap.size+1):=fun h=>by rcases d.fp _ h with h | h;exact aw h;have:=hlt y;omega
   have ag:¬F1 w.heap.size:=fun h=>by rcases d.fp _ h with h | h;exact az h;have:=hlt i;omega
   refine⟨_,run_beginRound a6 (by rw[b]),?_⟩;have ad:StepG w.heap.size (fun _=>False) F1 Wa (Wa.putObj (w.heap.size+1) (.loop { c .ready none with state := .busy })) := .put (by omega) aa _;have ac:=hJ.step _ _ _ _ a8 ad;have bg:=qx (zg4 hS _) body _ _ _ _ aq (am _ _ rfl ac);refine UW bg ?_;have ap:(Wa.putObj (w.heap.size+1) (.loop { c .ready none with state := .busy })).heap[w.heap.size+1]?=some (.loop { c .ready none with state := .busy }):=j3 a6;have ai:(Wa.putObj (w.heap.size+1) (.loop { c .ready none with state := .busy })).heap[w.heap.size]?=some (.deferred (some [])):=(zj (by omega)).trans bc;rintro e a3 W3 ⟨E3,_,hq⟩
   cases e with
   | normal =>
    obtain⟨F3,a9,g⟩:=hq;have ay:=(g.same _ (hlt ap) aa).trans ap;have be:=(g.same _ (hlt ai) ag).trans ai;have af:¬F3 (w.heap.size+1):=fun h=>by rcases g.fp _ h with h | h;exact aa h;have:=hlt ap;omega
    have a5:¬F3 w.heap.size:=fun h=>by rcases g.fp _ h with h | h;exact ag h;have:=hlt ai;omega
    have a4:=run_endRound (P:=S.P) none ay;have aj:=j3 (o' := .loop (c .ready none)) ay;have a0:(W3.putObj (w.heap.size+1) (.loop (c .ready none))).heap[w.heap.size]?=some (.deferred (some [])):=(zj (by omega)).trans be;have u:StepG w.heap.size (fun _=>False) F3 W3 (W3.putObj (w.heap.size+1) (.loop (c .ready none))) := .put (by omega) af _;have au:=hJ.step _ _ _ _ a9 u;rw[b] at a4 aj a0 u au;refine⟨_,_,a4,rfl,F3,⟨au,by rw[b];exact aj,a0,af,a5⟩,u.os.trans (g.os.trans d.os),u.tape.trans (g.tape.trans d.tape),u.output.trans (g.output.trans d.output),?_,fun k an av=>?_,fun k an=>?_⟩
    ·have h1:=d.size;have j:=ad.size;have h3:=g.size;have h4:=u.size;exact UC (UC (UC h1 j) h3) h4
    ·by_cases al:k=w.heap.size+1
     ·subst al;rw[y,b];exact aj
     ·have h1:¬F1 k:=fun h=>by rcases d.fp _ h with h | h;exact av h;omega
      have j:=d.size;have h3:=ad.size;rw[zj al,g.same k (by omega) h1,zj al];exact d.same k an av
    ·rcases g.fp _ an with j | j
     ·exact d.fp _ j
     ·have h3:=d.size;have h4:=ad.size;exact .inr (by omega)
   | ret=>exact (show False from (by obtain⟨_,h,_⟩:=hq;exact h)).elim
   | exit id=>exact (show False from (by obtain⟨_,h,_⟩:=hq;exact h)).elim
   | goto t=>exact hq.elim
   | panic ch=>exact hq.elim
   | outgrown=>exact hq.elim
end Go.Vc
namespace Go.Proofs.YtakcdebpklffiaaGreatDoor
open Go.Vc Go.RowKit Go.Sei
abbrev zcP:=List zaj×OA×Nat
def zgP:Enc zcP where
 sz:=1
 enc x:=[.slice x.2.1 x.1.length x.2.2]
 len x:=rfl
 one x v hv:=by
  simp at hv;subst hv;rfl
 pos:=by decide
structure MixM (Rd:Nat->Prop) (w:Wd) (b o:Nat) (m:MixD) (q:OA) (c:Nat) (p1 p2 p3:OA) (c1 c2 c3:Nat) (xs ys:List zaj):Prop where
 cells:zF w ⟨b,o,none⟩ (exC m.base q c++[.slice p1 m.rs.length c1,.slice p2 xs.length c2,.slice p3 ys.length c3])
 ev:SlR evE w q m.base.ev
 qn:q=none->c=0
 r1:SlR zB w p1 (m.rs.map (·.1))
 e2:xs.map (·.1)=m.rs.map (·.2)
 r2:SlR qF w p2 xs
 n2:∀y∈xs,SlR zB w y.2.1 y.1
 e3:ys.map (·.1)=m.wr
 r3:SlR qF w p3 ys
 n3:∀y∈ys,SlR zB w y.2.1 y.1
 db:Rd b
 dq:∀a,q=some a->Rd a.block
 d1:∀a,p1=some a->Rd a.block
 d2:∀a,p2=some a->Rd a.block
 d3:∀a,p3=some a->Rd a.block
 m2:∀y∈xs,∀a,y.2.1=some a->Rd a.block
 m3:∀y∈ys,∀a,y.2.1=some a->Rd a.block
theorem MixM.same{Rd:Nat->Prop}{w X:Wd}{b o:Nat}{m:MixD}{q:OA}{c:Nat}{p1 p2 p3:OA}{c1 c2 c3:Nat}{xs ys:List zaj}(h:MixM Rd w b o m q c p1 p2 p3 c1 c2 c3 xs ys)(hs:∀k,Rd k->X.heap[k]?=w.heap[k]?):MixM Rd X b o m q c p1 p2 p3 c1 c2 c3 xs ys :=
 ⟨qC (hs _ h.db) h.cells,qE h.ev fun a d=>hs _ (h.dq a d),h.qn,qE h.r1 fun a d=>hs _ (h.d1 a d),h.e2,qE h.r2 fun a d=>hs _ (h.d2 a d),fun y e=>qE (h.n2 y e) fun a d=>hs _ (h.m2 y e a d),
  h.e3,qE h.r3 fun a d=>hs _ (h.d3 a d),fun y e=>qE (h.n3 y e) fun a d=>hs _ (h.m3 y e a d),h.db,h.dq,h.d1,h.d2,h.d3,h.m2,h.m3⟩
theorem zd2{w:Wd}{b o:Nat}{x:ExD}{q:OA}{c:Nat}{S:List Value}(h:zF w ⟨b,o,none⟩ (exC x q c++S)){i:Nat}{v:Value}(hi:S[i]?=some v):w.cell? ⟨b,o+(333+i),none⟩=some v:=zc h (zfp hi)
theorem ztP{B c:Nat}{V1:Wd}{p:OA}{l:List zcP}{y:zcP}{a:Addr}(ho:OwnS zgP 90 B V1 p c l)(ha:zF V1 a ([y].flatMap zgP.enc))(hB:B<=V1.heap.size)(hl:l.length<=100000){K:Value->Wd->Prop}
  (h:∀p' c' w',OwnS zgP 90 B w' p' c' (l++[y])->V1.grownBy w' (p.map Addr.block)->(∀a,p'=some a->p=some a\/a.block=V1.heap.size)->K (.slice p' (l++[y]).length c') w') :
  SatR ((Builtin.append_ #[149,149] 149 #[.slice p l.length c,.slice (some a) 1 1]).run PG V1) K :=
 qQ (E:=zgP) (T:=90) (B:=B) (l:=l) (news:=[y]) (cap:=c) (m:=1) Tryz.underlying149 k90 rfl rfl rfl ho rfl ha hB (by omega) (by show(l.length+1)*24<=_;omega) fun p' c' w' d b _ e=>h p' c' w' d (by rw[j7] at b;exact b) e
structure CanS (B:Nat) (Z:Wd) (yl L R:Nat) (ss:List Nat) (ps:OA) (cs:Nat) (zs:List zcP) (pr:OA) (cr:Nat):Prop where
 fL:Z.heap[L]?=some (.cells #[.func (.yield yl) #[] #[]] 81 (0,0))
 fR:Z.heap[R]?=some (.cells #[.slice pr zs.length cr] 149 (0,0))
 own:OwnS zB 3 B Z ps cs ss
 rk:OwnS zgP 90 B Z pr cr zs
 n1:∀z∈zs,OwnS qF 89 B Z z.2.1 z.2.2 z.1
 n2:∀z∈zs,∀y∈z.1,OwnS zB 3 B Z y.2.1 y.2.2 y.1
 dis:∀z∈zs,∀y∈z.1,∀a b,ps=some a->y.2.1=some b->a.block≠b.block
theorem CanS.below{B:Nat}{Z Y:Wd}{yl L R:Nat}{ss:List Nat}{ps:OA}{cs:Nat}{zs:List zcP}{pr:OA}{cr:Nat}(h:CanS B Z yl L R ss ps cs zs pr cr)(hb:Bw Z Y):CanS B Y yl L R ss ps cs zs pr cr :=
 ⟨zb hb h.fL,zb hb h.fR,h.own.below hb,h.rk.below hb,fun z a=>(h.n1 z a).below hb,fun z a y b=>(h.n2 z a y b).below hb,h.dis⟩
theorem CanS.size{B:Nat}{Z Y:Wd}{yl L R:Nat}{ss:List Nat}{ps:OA}{cs:Nat}{zs:List zcP}{pr:OA}{cr:Nat}(h:CanS B Z yl L R ss ps cs zs pr cr){ps':OA}{cs' n:Nat}(ho:OwnS zB 3 B Y ps' cs' (ss++[n]))(g:Z.grownBy Y (ps.map Addr.block))(hat:∀a,ps'=some a->ps=some a\/a.block=Z.heap.size):CanS B Y yl L R (ss++[n]) ps' cs' zs pr cr :=
 ⟨qb h.fL h.own (by decide) g,qb h.fR h.own (by decide) g,ho,jK h.rk h.own (by decide) g,fun z d=>jK (h.n1 z d) h.own (by decide) g,fun z d y e=>zcy (h.n2 z d y e) g fun a b i f=>h.dis z d y e a b i f,fun z d y e a b i f=>by
  rcases hat a i with j | j
  ·exact h.dis z d y e a b j f
  ·have:=(zx (h.n2 z d y e) f).2.1;omega⟩
theorem zll{ds:List Nat}:∀{rs:List (Nat×List Nat)} {ds:List Nat} {f:Nat->Nat},zG f->(∀r∈rs,r.1<48)->zG (rfF rs ds f)
 | [],_,_,h,_=>h
 | (r,s)::rs,ds,f,h,hr=>by
  have d:=hr (r,s) Ku;refine zll (rs:=rs) (ds:=ds.tail) (f:=upd f (s.getD (ds.headD 0) 0) (f (s.getD (ds.headD 0) 0)|||2^r)) ?_ fun x b=>hr x (JR _ b);intro j a;by_cases e:j=s.getD (ds.headD 0) 0
  ·rw[e,qM];exact KR (by rw[<- e];exact h j a) (zT (by have:r<48:=d;omega))
  ·rw[zak _ _ e];exact h j a
theorem zlX{ev:List Ev}:∀{Rs:List (List (List Nat))} {l:Nat} {ds:List Nat} {p:RelD×(Nat->UInt8)},zG p.1.to->(∀R∈Rs,∀k∈R,∀a∈k,a<48)->zG (coG ev l Rs ds p).1.to
 | [],_,_,_,h,_=>h
 | R::Rs,l,ds,p,h,hr=>by
  refine zlX (Rs:=Rs) (l:=l+1) (ds:=ds.tail) (p:=(zaJ (R.getD (ds.headD 0) []) p.1,_)) (zhn h fun a b=>?_) fun x d=>hr x (JR _ d);rw[gDe] at b
  cases hg:R[ds.headD 0]? with
  | none=>rw [hg] at b;cases b
  | some k =>
   rw[hg] at b;exact hr R Ku k (JS hg) a b
section
variable(x:ExD)(q:OA)(c:Nat)
theorem zoR:∃A Z,A.length=50/\∀r,exC { x with rf:=r } q c=A++(zd r++Z):=by
 obtain⟨A,Z,b,a⟩:=zrt x q c [];exact⟨A,Z,b,fun r=>by rw[<- a,QA]⟩
theorem zkM:∃A Z,A.length=99/\∀r,exC { x with co:=r } q c=A++(zd r++Z):=by
 obtain⟨A,Z,b,a⟩:=zrv x q c [];exact⟨A,Z,b,fun r=>by rw[<- a,QA]⟩
theorem zqF{l:Nat}(hl:l<6)(v:UInt8):(exC x q c).set (327+l) (u8 v)=exC { x with mem:=upd x.mem l v } q c:=by
 obtain⟨A,Z,h,b⟩:=zoP x q c [];have a:=b x.mem;have d:=b (upd x.mem l v);rw[QA] at a d;rw[d];show(exC { x with mem:=x.mem } q c).set _ _=_;rw[a,jq h];have e:=zdL (B:=Z) (f:=fun i=>u8 (x.mem i)) (fun i=>u8 (upd x.mem l v i)) hl (fun j g=>by rw[zak _ _ g]);rw[<- e,qM]
theorem zsc(l:List Ev)(q':OA)(c':Nat):(exC x q c).set 0 (.slice q' l.length c')=exC { x with ev:=l } q' c':=rfl
end
abbrev zig:=ExD×OA×Nat
def exE:Enc zig:=⟨fun x=>exC x.1 x.2.1 x.2.2,333,fun _=>zM ..,by decide,fun a u hu=>Qa.1 (zbt ..) u hu⟩
abbrev ExH (X:Wd) (b:Nat) (x:ExD) (q:OA) (c:Nat):Prop:=X.heap[b]?=some (.cells (exC x q c).toArray 78 (0,0))
def StX (B:Nat) (pre:List ExD) (vs:List Value) (W:Wd):Prop:=∃x q c,pre.getLast?=some x/\vs=[.agg (exC x q c).toArray]/\OwnS evE 80 B W q c x.ev
def GvX (vs:List Value) (k:Nat):Prop:=∃(x:ExD) (a:Addr) (c:Nat),vs=[.agg (exC x (some a) c).toArray]/\k=a.block
theorem zkj{xs:List zaj}{rs:List (Nat×List Nat)}(h:xs.map (·.1)=rs.map (·.2)):xs.map (·.1.length)=rs.map fun r=>r.2.length:=by
 have:=UY (List.map List.length) h;rw[Uw,Uw] at this;exact this
theorem ziS{zs:List zcP}{ws:List (List Nat)}(h:zs.map (fun z=>z.1.map (·.1))=ws.map j0):zs.map (·.1.length)=ws.map fun w=>(j0 w).length:=by
 have:=UY (List.map List.length) h;rw[Uw,Uw] at this;rw[<- show zs.map (List.length ∘ fun z:zcP=>z.1.map (·.1))=zs.map (·.1.length) from Kf fun z _=>QD _];exact this
section
variable{Rd:Nat->Prop}{W0:Wd}{bx b o:Nat}{m:MixD}{q:OA}{c:Nat}{p1 p2 p3:OA}{c1 c2 c3:Nat}{xs ys:List zaj}
theorem zq0(hM:MixM Rd W0 b o m q c p1 p2 p3 c1 c2 c3 xs ys)(fx:W0.heap[bx]?=some (.cells #[.pointer (some ⟨b,o,none⟩)] 148 (0,0)))(hbx:Rd bx)(hRd:∀k,Rd k->k<W0.heap.size)(hT:Tz64M W0)(hRt:Rd 7)(hB:MixB m)(hev:m.base.ev.length<=48) :
  zpp PG 67 [At0 bx] (zeU m) W0 Rd (StX W0.heap.size) GvX:=by
 intro yl F0 J W ge cw fc hJ hy h0;refine qg 141 [.func (.yield yl) #[] #[],At0 bx] (.c .p (.s .p (.c .p (.c .p (.c .p (.s .p .p)))))) Tryz.func67 ?_;have bc:=hM.same cw;have cu:=(cw bx hbx).trans fx;have em:Tz64M W:=jJ hT (cw _ hRt);have af:∀k,Rd k->k<W.heap.size:=fun k g=>by have:=hRd k g;omega
 obtain⟨L,hL⟩:=nm (W.heap.size);have ep:xs.length=m.rs.length:=by have:=UY List.length hM.e2;simpa using this
 have el:ys.length=m.wr.length:=by have:=UY List.length hM.e3;simpa using this
 have d5:=hB.rl;have f8:=hB.wl;have gh:∀y∈xs,y.1.length<=1000:=fun y hy=>by
  have:y.1∈m.rs.map (·.2):=by rw[<- hM.e2];exact Uz.2 ⟨y,hy,rfl⟩
  obtain⟨r,hr,he⟩:=Uz.1 this;rw[<- he];exact(hB.rs r hr).2.1
 refine⟨Unit,fun _=>⟨[(1,At0 bx),(2,At0 L)],[]⟩,fun _ X=>X.heap[L]?=some (.cells #[.func (.yield yl) #[] #[]] 81 (0,0))/\X.heap.size=L+1/\Bw W X,?_,?_⟩
 ·exact⟨(),⟨.cons rfl (.cons (by rw[hL];rfl) .nil),rfl⟩,by rw[hL];exact zw W _,by rw[hL];exact wz _ _,(zba W _)⟩
 rintro _ X ⟨fL,sX,ab⟩;refine⟨OA×Nat,fun s=>⟨[(1,At0 bx),(2,At0 L),(3,.slice s.1 (xs.map (·.1.length)).length s.2)],[]⟩,fun s Z=>OwnS zB 3 W.heap.size Z s.1 s.2 (xs.map (·.1.length))/\Z.heap[L]?=some (.cells #[.func (.yield yl) #[] #[]] 81 (0,0))/\Bw W Z,?_,?_⟩
 ·refine⟨_,zc (za (zb ab cu)) (i:=0) rfl,_,zd2 (bc.same fun k g=>ab.block k (af k g)).cells (i:=1) rfl,?_⟩;refine⟨Nat×OA×Nat,fun s=>⟨[(1,At0 bx),(2,At0 L),(3,.slice s.2.1 ((xs.take s.1).map (·.1.length)).length s.2.2),(20,.slice p2 xs.length c2),(21,i64 xs.length),(22,i64 (s.1:Nat))],[]⟩,
   fun s Z=>s.1<=xs.length/\OwnS zB 3 W.heap.size Z s.2.1 s.2.2 ((xs.take s.1).map (·.1.length))/\Z.heap[L]?=some (.cells #[.func (.yield yl) #[] #[]] 81 (0,0))/\Bw W Z,fun s=>xs.length-s.1,(0,none,0),
   (cvE rfl rfl),⟨UP _,OwnS.nil,fL,ab⟩,?_⟩
  rintro⟨k,ps,cs⟩ Z ⟨g,ho,fL,f⟩;dsimp only at g ho ⊢;refine biE (fun hc=>?_) fun hc=>?_
  ·have hc:(k:Int)<(xs.length:Int):=dT hc;have u:k<xs.length:=by omega
   have ak:=bc.same fun k g=>f.block k (af k g);obtain⟨x,hx⟩:∃x,xs[k]=x:=⟨_,rfl⟩;obtain⟨bp,op,cn,e9,ct⟩:=ak.r2.at u;subst cn;refine⟨k,rfl,u,slV x,by rw[<- hx];exact zc (ct k u) (i:=0) rfl,⟨by decide,by decide,rfl⟩,zB.enc x.1.length,rfl,?_⟩;have aa:Bw Z (Z.alloc (.cells (zB.enc x.1.length).toArray 3)):=zba _ _;have ai:=f.size;have gj:((xs.take k).map (·.1.length)).length=k:=by rw[QD,Ql];omega
   have ax:(xs.take (k+1)).map (·.1.length)=(xs.take k).map (·.1.length)++[x.1.length]:=by
    rw[tsg u,QG,hx];rfl
   unfold zcA jP;show SatR _ _;refine znf (ho.below aa) (qq zB x.1.length) (by have:=aa.size;omega) (by have:=hB.rl;omega) fun p' c' U oU gU au=>?_;rw[j7] at gU;rw[<- ax] at oU ⊢;have fU:=qb (zb aa fL) (ho.below aa) (by decide) gU;exact nxI (by omega) ⟨(k+1,p',c'),(cvE rfl rfl),⟨u,oU,fU,f.trans ((aa.mono ai).trans (qB (ho.below aa) (by have:=aa.size;omega) (UN _) gU))⟩,zdc (by omega)⟩
  ·have hc:¬(k:Int)<(xs.length:Int):=dF hc;obtain rfl:k=xs.length:=by omega
   rw[Qn] at ho ⊢;exact⟨(ps,cs),(cvE rfl rfl),ho,fL,f⟩
 clear fL sX ab;rintro⟨ps,cs⟩ X ⟨ho,fL,ab⟩;dsimp only at ho ⊢;refine⟨Nat,fun R=>⟨[(1,At0 bx),(2,At0 L),(3,.slice ps (xs.map (·.1.length)).length cs),(6,At0 R)],[]⟩,fun R Z=>CanS W.heap.size Z yl L R (xs.map (·.1.length)) ps cs [] none 0/\L<R/\Bw W Z,?_,?_⟩
 ·refine⟨X.heap.size,(cvE rfl rfl),⟨z6 _ fL,zw X _,ho.alloc _,OwnS.nil,fun z hz=>(by cases hz),fun z hz=>(by cases hz),fun z hz=>(by cases hz)⟩,hlt fL,ab.alloc ab.size _⟩
 clear ho fL ab;rintro R X ⟨hS,gq,ab⟩;refine⟨(List zcP×OA×Nat)×OA×Nat,fun s=>⟨[(1,At0 bx),(2,At0 L),(3,.slice s.2.1 (zaO m).length s.2.2),(6,At0 R)],[]⟩,fun s Z=>CanS W.heap.size Z yl L R (zaO m) s.2.1 s.2.2 s.1.1 s.1.2.1 s.1.2.2/\s.1.1.map (fun z=>z.1.map (·.1))=m.wr.map j0/\Bw W Z,?_,?_⟩
 ·refine⟨_,zc (za (zb ab cu)) (i:=0) rfl,_,zd2 (bc.same fun k g=>ab.block k (af k g)).cells (i:=2) rfl,?_⟩;refine⟨Nat×(List zcP×OA×Nat)×OA×Nat,fun s=>⟨[(1,At0 bx),(2,At0 L),(3,.slice s.2.2.1 (xs.map (·.1.length)++s.2.1.1.map (·.1.length)).length s.2.2.2),(6,At0 R),(35,.slice p3 ys.length c3),(36,i64 ys.length),(37,i64 (s.1:Nat))],[]⟩,
   fun s Z=>s.1<=ys.length/\CanS W.heap.size Z yl L R (xs.map (·.1.length)++s.2.1.1.map (·.1.length)) s.2.2.1 s.2.2.2 s.2.1.1 s.2.1.2.1 s.2.1.2.2/\s.2.1.1.map (fun z=>z.1.map (·.1))=(ys.take s.1).map (fun y=>j0 y.1)/\Bw W Z,fun s=>ys.length-s.1,(0,([],none,0),ps,cs),
   ⟨.cons rfl (.cons rfl (.cons (by simp;rfl) (.cons rfl (.cons rfl (.cons rfl (.cons rfl .nil)))))),rfl⟩,⟨UP _,by simpa using hS,rfl,ab⟩,?_⟩
  clear hS ab;rintro⟨k,⟨zs,pr,cr⟩,ps,cs⟩ Z ⟨g,hS,hz,f⟩;dsimp only at g hS hz ⊢;have fh:zs.length=k:=by
   have:=UY List.length hz;rw[QD,QD,Ql] at this;omega
  refine biE (fun hc=>?_) fun hc=>?_
  ·have hc:(k:Int)<(ys.length:Int):=dT hc;have u:k<ys.length:=by omega
   have ak:=bc.same fun k g=>f.block k (af k g);obtain⟨y,ad⟩:∃y,ys[k]=y:=⟨_,rfl⟩;have aj:y∈ys:=by rw[<- ad];exact gM u
   have ei:y.1∈m.wr:=by rw[<- hM.e3];exact Uz.2 ⟨y,aj,rfl⟩
   obtain⟨fs,c4,f9⟩:=hB.wr _ ei;obtain⟨bp,op,cn,e9,ct⟩:=ak.r3.at u;subst cn;refine⟨k,rfl,u,slV y,by rw[<- ad];exact zc (ct k u) (i:=0) rfl,cmo (zn9 (ak.n3 y aj) fs (jJ em (f.block _ (af _ hRt)))) ?_⟩;rintro e Y ⟨⟨rk,pk,ck,rfl,df,ed,di⟩,aw⟩;have ai:=f.size;have cg:=hS.below aw;have fz:rk.length<=10000:=by rw[<- df,QD] at c4;exact c4
   obtain⟨nz,ay⟩:∃nz:zcP,nz=(rk,pk,ck):=⟨_,rfl⟩;have d7:[Value.slice pk rk.length ck]=zgP.enc nz:=by rw[ay];rfl
   refine⟨_,zc (za cg.fR) (i:=0) rfl,⟨by decide,by decide,rfl⟩,zgP.enc nz,by rw[<- d7];rfl,?_⟩;have aa:Bw Y (Y.alloc (.cells (zgP.enc nz).toArray 90)):=zba _ _;have ac:=cg.below aa;have bo:=ed.below aa;have bu:=fun x hx=>(di x hx).below aa;unfold zcA jP;show SatR _ _;refine ztP ac.rk (qq zgP nz) (by have:=aa.size;have:=aw.size;omega) (by have:=hB.wl;omega) fun p' c' U oU gU au=>?_;have cv:=qb ac.fL ac.rk (by decide) gU;have bi:=qb ac.fR ac.rk (by decide) gU;refine zn ztE bi (o:=0) (v := .slice p' (zs++[nz]).length c') rfl rfl (by show 0<1;decide) rfl fun S fS gS sS=>?_;have cx:=f.trans (aw.mono ai);have sY:=aw.size;have gi:=aa.size;have dn:Bw W U:=(cx.trans (aa.mono (by omega))).trans (qB ac.rk (by omega) (UN _) gU);have e8:W.heap.size<=R:=by omega
   have aq:Bw W S:=dn.trans (zm gS dn.size e8);have en:CanS W.heap.size S yl L R (xs.map (·.1.length)++zs.map (·.1.length)) ps cs (zs++[nz]) p' c':=by
    have kU:∀{α:Type} {E:Enc α} {T cc:Nat} {r:OA} {ll:List α},T≠90->T≠149->OwnS E T W.heap.size (Y.alloc (.cells (zgP.enc nz).toArray 90)) r cc ll->OwnS E T W.heap.size S r cc ll:=fun{α E T cc r ll} h1 h2 h=>qc (jK h ac.rk h1 gU) bi h2 gS;refine⟨(gS.block L (hlt cv) (by simp;omega)).trans cv,fS,kU (by decide) (by decide) ac.own,qc oU bi (by decide) gS,fun z hz=>?_,fun z hz=>?_,fun z hz=>?_⟩
    ·rcases QH.1 hz with hz | hz
     ·exact kU (by decide) (by decide) (ac.n1 z hz)
     ·rw[Kv.1 hz,ay];exact kU (by decide) (by decide) (bo.lower ai)
    ·rcases QH.1 hz with hz | hz
     ·exact fun x hx=>kU (by decide) (by decide) (ac.n2 z hz x hx)
     ·rw[Kv.1 hz,ay];exact fun x hx=>kU (by decide) (by decide) ((bu x hx).lower ai)
    ·rcases QH.1 hz with hz | hz
     ·exact ac.dis z hz
     ·rw[Kv.1 hz,ay];intro x hx a b ha hb;have:=(zx (di x hx) hb).1;have:=(zx hS.own ha).2.1;omega
   clear ac bo bu cg hS oU gU au cv bi fS gS;refine⟨⟨by decide,by decide,rfl⟩,zB.enc rk.length,rfl,?_⟩;have b8:Bw S (S.alloc (.cells (zB.enc rk.length).toArray 3)):=zba _ _;have cp:=en.below b8;have es:=aq.size;have gf:=b8.size;unfold zcA jP;show SatR _ _;refine znf cp.own (qq zB rk.length) (by omega) (by rw[lap,QD,QD];have:=hB.rl;have:=hB.wl;omega) fun fd fw V oV gV bb=>?_;rw[j7] at gV;have dq:=cp.size oV gV bb;have fb:(xs.map (·.1.length)++zs.map (·.1.length))++[rk.length]=xs.map (·.1.length)++(zs++[nz]).map (·.1.length):=by
    rw[QG,KH,ay];rfl
   rw[fb] at dq ⊢;refine nxI (by omega) ⟨(k+1,(zs++[nz],p',c'),fd,fw),(cvE rfl rfl),⟨u,dq,?_,aq.trans ((b8.mono es).trans (qB cp.own (by omega) (UN _) gV))⟩,zdc (by omega)⟩;rw[tsg u,ad,QG,QG,hz,ay];show _++[rk.map (·.1)]=_++[j0 y.1];rw[df]
  ·have hc:¬(k:Int)<(ys.length:Int):=dF hc;obtain rfl:k=ys.length:=by omega
   have dr:zs.map (fun z=>z.1.map (·.1))=m.wr.map j0:=by
    rw[Qn] at hz;rw[hz,<- hM.e3,Uw];rfl
   have d2:xs.map (·.1.length)++zs.map (·.1.length)=zaO m:=by
    rw[zkj hM.e2,ziS dr];rfl
   rw[d2] at hS ⊢;exact⟨((zs,pr,cr),ps,cs),(cvE rfl rfl),hS,dr,f⟩
 clear hS ab;rintro⟨⟨zs,pr,cr⟩,ps,cs⟩ V ⟨hS,hz,bh⟩;dsimp only at hS hz ⊢;have fj:=bh.size;have d8:=bc.same fun k g=>bh.block k (af k g);have d6:=zb bh cu;have du:(zaO m).length<=1000:=by
  unfold zaO;rw[lap,QD,QD];omega
 have d3:∀n∈zaO m,n<=1000000:=fun n hn=>by
  unfold zaO at hn;rcases QH.1 hn with hn | hn
  ·obtain⟨r,hr,rfl⟩:=Uz.1 hn;have:=(hB.rs r hr).2.1;omega
  ·obtain⟨w,hw,rfl⟩:=Uz.1 hn;have:=(hB.wr w hw).2.1;omega
 refine cmo zod ?_;rintro e V1 ⟨rfl,fo,gk,a3⟩;have hI:=zrn fo (hS.own.row.below a3) (fun a ha=>by have:=(zx hS.own ha).2.1;omega) du d3;obtain⟨Kp,bf⟩:∃Kp:(Nat->Prop)->Wd->Prop,Kp=fun F Y=>V1.heap.size<=Y.heap.size/\∀k,k<V.heap.size->(Rd k\/W.heap.size<=k)->Y.heap[k]?=V.heap[k]?/\¬F k:=⟨_,rfl⟩;have cd:∀k,F0 k->k<W.heap.size:=fun k g=>(hJ.lt _ _ _ _ h0 g).1;have e0:=hlt hS.fL;have ek:=hlt hS.fR;have aa:Bw W V1:=bh.trans (a3.mono fj);refine zcw (zes _) rfl (lb := #[At0 V.heap.size]) rfl rfl hI (UN _) (fun k g=>⟨?_,rfl⟩) (fun al vs W ⟨l,q,_,h,_⟩=>by rw[h];rfl) (by decide)
  F0 (fun al F Y=>J (al.map (zav m)) F Y/\Kp F Y) (fun _ _ _ _=>False) (fun k g=>?_) ⟨?_,?_⟩ (fun ex=>⟨fun _ _ _ _ h=>h.elim,fun _ _ _ _ h=>h.elim⟩) ⟨hJ.step _ _ _ _ h0 (.below aa),?_⟩ ?_ ?_ ?_
 ·rcases g with(rfl | ⟨a,ha,rfl⟩) | h
  ·omega
  ·have:=(zx hS.own ha).2.1;omega
  ·exact h.elim
 ·rcases g with rfl | ⟨a,ha,rfl⟩
  ·intro h;have:=cd _ h;omega
  ·intro h;have:=cd _ h;have:=(zx hS.own ha).1;omega
 ·rintro al F A C ⟨hj,g⟩ hs;rw[bf] at g ⊢;have ea:=hs.size;exact⟨hJ.step _ _ _ _ hj (hs.mono (by omega)),UC g.1 ea,fun k h1 h2=>⟨(hs.same k (by have:=g.1;omega) (.inl ⟨by omega,fun h=>h⟩)).trans (g.2 k h1 h2).1,(g.2 k h1 h2).2⟩⟩
 ·rintro al F A k ⟨hj,_⟩ g;exact hJ.lt _ _ _ _ hj g
 ·rw[bf];refine⟨UN _,fun k h1 h2=>⟨a3.block k h1,fun h=>?_⟩⟩;rcases h2 with h2 | h2
  ·exact fc k h2 h
  ·have:=cd k h;omega
 ·rintro gm al ds vs F Y el a8 ff ⟨l,qd,ap,rfl,c5,bm⟩ gr ⟨lo,da⟩;have ee:ds=l:=by simpa using ap
  subst ee;refine⟨rfl,F,KeepsG.refl _ _,ff,?_⟩;rintro O Y2 eb ⟨hj,ag⟩;rw[bf] at ag;obtain⟨c9,ag⟩:=ag;have fv:=ag;have bk:SlR zB Y2 qd ds:=by
   rw[eb];refine qE c5 fun a ha=>zj fun e=>?_;obtain⟨gb,br⟩:=bm a ha;rw[e,da] at br
   cases br
  obtain⟨ez,bv⟩:=zlT (a8.subset (JJ _ (Kv.2 rfl)));have fy:ds.length=m.rs.length+m.wr.length:=by
   rw[ez];unfold zaO;rw[lap,QD,QD]
  have be:MixM Rd Y2 b o m q c p1 p2 p3 c1 c2 c3 xs ys:=d8.same fun k g=>(ag k (by have:=af k g;omega) (.inl g)).1;have bd:=(ag bx (by have:=af bx hbx;omega) (.inl hbx)).1.trans d6;have fn:=(ag L e0 (.inr (by omega))).1.trans hS.fL;have ew:=(ag R ek (.inr (by omega))).1.trans hS.fR;have kR:∀{α:Type} {E:Enc α} {T cc:Nat} {r:OA} {ll:List α},OwnS E T W.heap.size V r cc ll->OwnS E T W.heap.size Y2 r cc ll:=fun{α E T cc r ll} h=>h.same fun a ha=>(ag _ (zx h ha).2.1 (.inr (zx h ha).1)).1;have ej:=kR hS.rk;have er:=fun z hz=>kR (hS.n1 z hz);have cq:=fun z hz y hy=>kR (hS.n2 z hz y hy);clear ag da bm c5;have aw:b<Y2.heap.size:=by have:=af b hM.db;omega
  refine⟨_,zc (za bd) (i:=0) rfl,?_⟩;have ci:zF Y2 ⟨b,o,none⟩ (exC m.base q c):=by
   have:=zI (n:=0) (m:=333) be.cells;rw[Uc,Je (by rw[zM];decide),JB (by rw[zM];decide)] at this;exact this
  refine⟨exC m.base q c,zM _ _ _,ci,aw,?_⟩;obtain⟨M,ec⟩:=nm (Y2.heap.size);refine zr (X:=Y2) (v := .agg (exC m.base q c).toArray) k78 (zM _ _ _) zaF (zbt _ _ _) fun Z f fZ sZ=>?_;have fZ:ExH Z Y2.heap.size m.base q c:=fZ;rw[<- ec] at fZ ⊢;refine⟨_,zc (za fZ) (i:=0) rfl,cmo (zhF (be.ev.below f) (by omega) be.qn) ?_⟩;rintro e Z2 ⟨⟨q1,k1,rfl,oE⟩,an⟩;refine zn k72 (zb an fZ) (o:=0+0) (v := .slice q1 m.base.ev.length k1) rfl rfl (by rw[zM];decide) rfl fun S fS gS sS=>?_;rw[show 0+0=0 from rfl,zsc] at fS;have f7:M<Z2.heap.size:=by have:=an.size;omega
  have aq:Bw Y2 S:=((zst f an)).trans (zm gS (by omega) (by omega));have d1:OwnS evE 80 Y2.heap.size S q1 k1 m.base.ev:=qc (oE.lower f.size) (zb an fZ) (by decide) gS;clear oE gS sS fZ f an;have cj:∀{S:Wd},Bw Y2 S->MixM Rd S b o m q c p1 p2 p3 c1 c2 c3 xs ys:=fun{S} hb=>be.same fun k g=>hb.block k (by have:=af k g;omega);have eh:=ep;refine⟨_,zc (za (zb aq bd)) (i:=0) rfl,_,zd2 (cj aq).cells (i:=0) rfl,?_⟩;refine⟨Nat,fun k=>⟨[(1,At0 bx),(2,At0 L),(6,At0 R),(10,.slice qd ds.length ds.length),(11,At0 M),(67,.slice p1 m.rs.length c1),(68,i64 m.rs.length),(69,i64 (k:Nat))],[]⟩,
   fun k Z=>k<=m.rs.length/\ExH Z M { m.base with rf:=⟨m.base.rf.n,rfF (m.rs.take k) ds m.base.rf.to⟩ } q1 k1/\OwnS evE 80 Y2.heap.size Z q1 k1 m.base.ev/\Bw Y2 Z,fun k=>m.rs.length-k,0,
   (cvE rfl rfl),⟨UP _,fS,d1,aq⟩,?_⟩
  clear fS d1 aq;rintro k Z ⟨g,fZ,oE,f⟩;refine biE (fun hc=>?_) fun hc=>?_
  ·have hc:(k:Int)<(m.rs.length:Int):=dT hc;have u:k<m.rs.length:=by omega
   have ak:=cj f;have ai:=f.size;obtain⟨⟨r,s⟩,a5⟩:∃x,m.rs[k]=x:=⟨_,rfl⟩;obtain⟨de,eo,bn⟩:=hB.rs (r,s) (by rw[<- a5];exact gM u);dsimp only at de eo bn;have a7:k<xs.length:=by omega
   obtain⟨y,ad⟩:∃y,xs[k]=y:=⟨_,rfl⟩;have aj:y∈xs:=by rw[<- ad];exact gM a7
   have cl:y.1=s:=by
    have h1:(xs.map (·.1))[k]?=some y.1:=(by rw[KM,gE a7,ad];rfl);rw[hM.e2,KM,gE u,a5] at h1;exact(QV h1).symm
   obtain⟨d,hd⟩:∃d,ds[k]?=some d:=⟨_,gE (by omega)⟩;have bg:k<ds.length:=by omega
   have fa:ds[k]=d:=by rw[gE bg] at hd;exact QV hd
   have ae:d<y.1.length:=by
    refine bv k _ d ?_ hd;unfold zaO;rw[Jn (by rw[QD];exact u),KM,gE u,a5,cl];rfl
   have ao:d<s.length:=by rw[<- cl];exact ae
   obtain⟨t,ht⟩:∃t,y.1[d]=t:=⟨_,rfl⟩;have c0:s[d]=t:=by
    have h1:y.1[d]?=some t:=(by rw[gE ae,ht]);rw[cl,gE ao] at h1;exact QV h1
   have am:t<48:=bn t (by rw[<- c0];exact gM ao);have fg:s.getD (ds.getD k 0) 0=t:=by
    rw[gDe,gDe,hd];show(s[d]?).getD 0=t;rw[gE ao,c0];rfl
   have ax:rfF (m.rs.take (k+1)) ds m.base.rf.to=upd (rfF (m.rs.take k) ds m.base.rf.to) t (rfF (m.rs.take k) ds m.base.rf.to t|||2^r):=by
    rw[tsg u,a5,ziP,Ql,QQ g,fg]
   obtain⟨G,hG⟩:=nm (rfF (m.rs.take k) ds m.base.rf.to);have eg:zG G:=by
    rw[hG];exact zll (ds:=[]) hB.rf fun r hr=>(hB.rs r (JT hr)).1
   rw[<- hG] at fZ ax;obtain⟨A,T,hA,hE⟩:=zoR { m.base with rf:=⟨m.base.rf.n,G⟩ } q1 k1;have ah:RelAt Z M 50 78 A T ⟨m.base.rf.n,G⟩:=⟨hA,by rw[<- hE];exact fZ⟩;have dv:k<(m.rs.map (·.1)).length:=by rw[QD];exact u
   obtain⟨b1,o1,c7,gc,au⟩:=ak.r1.at dv;obtain⟨b2,o2,fq,gs,bb⟩:=ak.r2.at a7;obtain⟨b3,o3,e6,gp,cy⟩:=(ak.n2 y aj).at ae;have d0:=bk.below f;obtain⟨b4,o4,d9,gn,dz⟩:=d0.at bg;have e1:some (Value.slice p1 m.rs.length c1)=some (Value.slice (some ⟨b1,o1,none⟩) m.rs.length c1):=by rw[c7]
   subst c7;subst fq;subst d9;refine⟨k,rfl,u,i64 r,by have:=zc (au k dv) (i:=0) (v:=i64 r) (by rw[Qh,a5];rfl);exact this,?_⟩;have dZ:Bw Z Z.drew:=(UR _ _).drew;refine DrawE.ord [23] [0,1,2,3,4,5,6,7,8,9,10,11,12,13,14,15,16,17,18,19,20,21,22,23] (by kernel_rfl) ⟨_,zc (za (hdr (zb f bd))) (i:=0) rfl,_,zd2 (ak.same (X:=Z.drew) fun _ _=>rfl).cells (i:=1) rfl,k,rfl,a7,slV y,by have:=zc (zt dZ (bb k a7)) (i:=0) (v:=slV y) (by rw[ad];rfl);exact this,k,rfl,bg,i64 d,by have:=zc (zt dZ (dz k bg)) (i:=0) (v:=i64 d) (by rw[fa];rfl);exact this,?_⟩;unfold slV;rw[e6];refine⟨d,rfl,ae,i64 t,by have:=zc (zt dZ (cy d ae)) (i:=0) (v:=i64 t) (by rw[ht];rfl);exact this,t,rfl,am,s64 (G t),(ah.same (Y:=Z.drew) rfl).cell am,by omega,_,jn (e:=r) (by omega),_,jB (eg t am) (zT (by omega)),t,rfl,am,zn k73 (ah.same (Y:=Z.drew) rfl).cells (o:=50+1+t*1) (v:=s64 (G t|||2^r)) rfl rfl (by rw[ah.len];omega) rfl fun S fS gS sS=>?_⟩;rw[ah.set am] at fS;have a9:Z.grownBy S (some M):=zf (zi dZ) gS;refine nxI (by omega) ⟨k+1,(cvE rfl rfl),⟨u,?_,qc oE fZ (by decide) a9,f.trans (zm a9 ai (by omega))⟩,zdc (by omega)⟩;rw[ax];have e5:=hE ⟨m.base.rf.n,upd G t (G t|||2^r)⟩;show S.heap[M]?=some (.cells (exC { m.base with rf:=⟨m.base.rf.n,upd G t (G t|||2^r)⟩ } q1 k1).toArray _ _);exact fS.trans (by rw[<- e5])
  have hc:¬(k:Int)<(m.rs.length:Int):=dF hc;obtain rfl:k=m.rs.length:=by omega
  rw[Qn] at fZ;obtain⟨RF,a6⟩:∃RF:ExD,RF={ m.base with rf:=⟨m.base.rf.n,rfF m.rs ds m.base.rf.to⟩ }:=⟨_,rfl⟩;rw[<- a6] at fZ;have cz:RF.ev=m.base.ev:=by rw[a6]
  have dk:RF.co=m.base.co:=by rw[a6]
  have f2:RF.mem=m.base.mem:=by rw[a6]
  obtain⟨dl,ar⟩:=nm (ds.drop m.rs.length);have f3:dl.length=m.wr.length:=by rw[ar,Qk];omega
  have bq:SlR zB Y2 (z7 qd ds.length m.rs.length 1) dl:=by
   have:=bk.sub (cap:=ds.length) (lo:=m.rs.length) (hi:=ds.length) (by omega) (UN _) (UN _);rw[JB (by rw[Qk];exact UN _),<- ar] at this;exact this
  refine⟨_,zc (za (zb f bd)) (i:=0) rfl,_,zd2 (cj f).cells (i:=0) rfl,m.rs.length,rfl,by omega,?_⟩;obtain⟨qD,fi⟩:=nm (z7 qd ds.length m.rs.length 1);rw[<- fi] at bq ⊢;have fm:ds.length-m.rs.length=dl.length:=by omega
  rw[fm];obtain⟨Rs,a1⟩:=nm (m.wr.map j0);have f5:Rs.length=m.wr.length:=by rw[a1,QD]
  have fh:zs.length=m.wr.length:=by have:=UY List.length hz;simpa using this
  have bl:∀R∈Rs,∀k∈R,k≠[]/\k.length<=48/\∀a∈k,a<m.base.ev.length:=fun R hR k g=>by
   rw[a1] at hR;obtain⟨w,hw,rfl⟩:=Uz.1 hR;exact(hB.wr w hw).2.2 k g
  refine⟨Nat,fun l=>⟨[(1,At0 bx),(2,At0 L),(6,At0 R),(11,At0 M),(104,.slice qD dl.length dl.length),(105,i64 dl.length),(106,i64 (l:Nat))],[]⟩,
   fun l Z=>l<=dl.length/\ExH Z M { RF with co:=(coG m.base.ev 0 (Rs.take l) dl (RF.co,RF.mem)).1,mem:=(coG m.base.ev 0 (Rs.take l) dl (RF.co,RF.mem)).2 } q1 k1/\OwnS evE 80 Y2.heap.size Z q1 k1 m.base.ev/\Bw Y2 Z,fun l=>dl.length-l,0,
   (cvE rfl rfl),⟨UP _,fZ,oE,f⟩,?_⟩
  clear fZ oE f;rintro l Z ⟨hl,fZ,oE,f⟩;obtain⟨P,hP⟩:=nm (coG m.base.ev 0 (Rs.take l) dl (RF.co,RF.mem));rw[<- hP] at fZ;have ai:=f.size;have fk:zG P.1.to:=by
   rw[hP];refine zlX (by rw[dk];exact hB.co) fun R hR k g a ha=>?_;have:=(bl R (JT hR) k g).2.2 a ha;omega
  refine biE (fun hc=>?_) fun hc=>?_
  ·have hc:(l:Int)<(dl.length:Int):=dT hc;have a2:l<dl.length:=by omega
   have az:l<zs.length:=by omega
   have et:l<Rs.length:=by omega
   obtain⟨z,ce⟩:∃z,zs[l]=z:=⟨_,rfl⟩;have bj:z∈zs:=by rw[<- ce];exact gM az
   have ca:Rs[l]?=some (z.1.map (·.1)):=by
    rw[a1,<- hz,KM,gE az,ce];rfl
   have c8:z.1.map (·.1)∈Rs:=JS ca;obtain⟨d,hd⟩:∃d,dl[l]=d:=⟨_,rfl⟩;have cm:dl[l]?=some d:=by rw[gE a2,hd]
   have a0:d<z.1.length:=by
    refine bv (m.rs.length+l) _ d ?_ (by rw[ar,Kr] at cm;exact cm);unfold zaO;rw[Jj (by rw[QD];omega),QD,Jt];have:=ca;rw[a1,KM] at this;rw[KM]
    cases hw:m.wr[l]? with
    | none=>rw [hw] at this;cases this
    | some w =>
     rw[hw] at this;have h2:j0 w=z.1.map (·.1):=QV this;show some (j0 w).length=_;rw[h2,QD]
   obtain⟨y,ad⟩:∃y,z.1[d]=y:=⟨_,rfl⟩;have aj:y∈z.1:=by rw[<- ad];exact gM a0
   obtain⟨ef,f1,bt⟩:=bl _ c8 y.1 (Uz.2 ⟨y,aj,rfl⟩);have fl:(z.1.map (·.1)).getD d []=y.1:=by
    rw[gDe,KM,gE a0,ad];rfl
   obtain⟨f4,dw⟩:=Jo.1 ca;have ax:coG m.base.ev 0 (Rs.take (l+1)) dl (RF.co,RF.mem)=(zaJ y.1 P.1,upd P.2 l (zge m.base.ev y.1)):=by
    rw[tsg et,dw,zjJ,<- hP,Ql,QQ (by omega),UH];rw[show dl.getD l 0=d by rw[gDe,cm];rfl,fl]
   obtain⟨bD,oD,e4,ga,dx⟩:=(bq.below f).at a2;obtain⟨bR,oR,ey,f6,dc⟩:=(ej.below f).row.at az;obtain⟨bz,oz,fr,f0,dh⟩:=((er z bj).below f).row.at a0;have b0:=((cq z bj y aj).below f).row;have dg:=fun a ha=>(zx (cq z bj y aj) (a:=a) ha).2.1;subst e4;subst ey;refine⟨l,rfl,a2,i64 d,by have:=zc (dx l a2) (i:=0) (v:=i64 d) (by rw[hd];rfl);exact this,_,zc (za (zb f ew)) (i:=0) rfl,l,rfl,az,.slice z.2.1 z.1.length z.2.2,by have:=zc (dc l az) (i:=0) (v := .slice z.2.1 z.1.length z.2.2) (by rw[ce];rfl);exact this,?_⟩;rw[fr];refine⟨d,rfl,a0,slV y,by have:=zc (dh d a0) (i:=0) (v:=slV y) (by rw[ad];rfl);exact this,?_⟩;obtain⟨A,T,hA,hE⟩:=zkM { RF with co:=P.1,mem:=P.2 } q1 k1;have ah:RelAt Z M 99 78 A T P.1:=⟨hA,by rw[<- hE];exact fZ⟩;refine cmo (zop ah fk b0 (fun a ha=>by have:=dg a ha;omega) (by omega) (fun a ha=>by have:=bt a ha;omega)) ?_;rintro e V2 ⟨rfl,ch,c6⟩;have b5:ExH V2 M { RF with co:=zaJ y.1 P.1,mem:=P.2 } q1 k1:=by
    have e5:=hE (zaJ y.1 P.1);show V2.heap[M]?=some (.cells (exC { RF with co:=zaJ y.1 P.1,mem:=P.2 } q1 k1).toArray _ _);exact ch.cells.trans (by rw[<- e5])
   have ba:Bw Y2 V2:=f.trans (zm c6 ai (by omega));have dy:=qc oE fZ (by decide) c6;have d4:=((cq z bj y aj).below ba).row;obtain⟨j,gd⟩:∃j,j+1=y.1.length:=⟨y.1.length-1,by have:=List.length_pos_iff.2 ef;omega⟩;have a4:j<y.1.length:=by omega
   obtain⟨b6,o6,ft,gg,dm⟩:=d4.at a4;obtain⟨t,ht⟩:∃t,y.1[j]=t:=⟨_,rfl⟩;have av:t<m.base.ev.length:=bt t (by rw[<- ht];exact gM a4);have ap:y.1.getLastD 0=t:=by
    rw[List.getLastD_eq_getLast?,List.getLast?_eq_getElem?,show y.1.length-1=j by omega,gE a4,ht];rfl
   obtain⟨b7,o7,cf,gl,dp⟩:=dy.row.at av;have e7:zge m.base.ev y.1=(m.base.ev[t]).v:=by
    show(m.base.ev.getD (y.1.getLastD 0) ev0).v=_;rw[ap,gDe,gE av];rfl
   have dV:Bw V2 V2.drew:=(UR _ _).drew;have bw:l<6:=by omega
   unfold slV;rw[ft];refine DrawE.ord [15] [0,1,2,3,4,5,6,7,8,9,10,11,12,13,14,15] (by kernel_rfl) ⟨.slice q1 m.base.ev.length k1,by have:=zc (za (hdr b5)) (i:=0) (v := .slice q1 RF.ev.length k1) rfl;rw[cz] at this;exact this,(j:Nat),(zg (by omega)).trans (by omega),j,rfl,a4,i64 t,by have:=zc (zt dV (dm j a4)) (i:=0) (v:=i64 t) (by rw[ht];rfl);exact this,?_⟩;rw[cf];refine⟨t,rfl,av,u8 (m.base.ev[t]).v,by have:=zc (zt dV (dp t av)) (i:=3) (v:=u8 (m.base.ev[t]).v) rfl;exact this,l,rfl,bw,zn k5 (hdr b5) (o:=327+l*1) (v:=u8 (m.base.ev[t]).v) rfl rfl (by rw[zM];omega) rfl fun S fS gS sS=>?_⟩;rw[UO,zqF _ _ _ bw] at fS;have a9:V2.grownBy S (some M):=zf (zi dV) gS;refine nxI (by omega) ⟨l+1,(cvE rfl rfl),⟨a2,?_,by rw[<- cf];exact qc dy b5 (by decide) a9,ba.trans (zm a9 ba.size (by omega))⟩,zdc (by omega)⟩;rw[ax,e7,<- cf];exact fS
  have hc:¬(l:Int)<(dl.length:Int):=dF hc;obtain rfl:l=dl.length:=by omega
  rw[JB (by omega)] at hP;have b9:zav m ds={ RF with co:=P.1,mem:=P.2 }:=by
   rw[hP,a6,ar,a1];rfl
  rw[<- b9] at fZ;have oE:OwnS evE 80 Y2.heap.size Z q1 k1 (zav m ds).ev:=oE;refine⟨_,zc (za (zb f fn)) (i:=0) rfl,exC (zav m ds) q1 k1,zM _ _ _,za fZ,hlt fZ,?_⟩;have eu:=hJ.step _ _ _ _ hj (StepG.below f);have cb:∀k,GvX [.agg (exC (zav m ds) q1 k1).toArray] k->Y2.heap.size<=k/\∃a,q1=some a/\k=a.block:=by
   rintro k ⟨x,a,cc,he,rfl⟩;have h1:(exC (zav m ds) q1 k1).toArray=(exC x (some a) cc).toArray:=by
    have:=Js he;exact Value.agg.inj this
   have h2:exC (zav m ds) q1 k1=exC x (some a) cc:=by simpa using h1
   have h3:Value.slice q1 (zav m ds).ev.length k1=Value.slice (some a) x.ev.length cc:=Js h2;have h4:q1=some a:=by injection h3
   exact⟨(zx oE h4).1,a,h4,rfl⟩
  have dj:(al++[ds]).map (zav m)=al.map (zav m)++[zav m ds]:=by rw[QG];rfl
  have fu:(al.map (zav m)++[zav m ds]) <+: zeU m:=by
   obtain⟨t,ht⟩:=a8;refine⟨t.map (zav m),?_⟩;unfold zeU;rw[<- ht,QG,dj]
  refine YieldR.mono (hy _ (zav m ds) [.agg (exC (zav m ds) q1 k1).toArray] F Z eu ⟨_,q1,k1,by simp,rfl,oE.lower (by omega)⟩ (fun k g=>by have:=(cb k g).1;omega) fu) ?_;rintro v U ⟨rfl,F',fe,kU⟩;refine brF ?_;have kF:KeepsG F F' Y2 U:=⟨kU.os.trans f.os,kU.tape.trans f.tape,kU.output.trans f.output,UC f.size kU.size,fun k g hf=>(kU.same k (by omega) (fun h=>h.elim hf fun h=>by have:=(cb k h).1;omega)).trans (f.block k g),fun k g=>by
   rcases kU.fp k g with(h | h) | h
   ·exact .inl h
   ·exact .inr (cb k h).1
   ·exact .inr (by omega)⟩
  refine⟨F',⟨by rw[dj];exact fe,?_⟩,kF⟩;rw[bf];refine⟨UC c9 kF.size,fun k h1 h2=>?_⟩;obtain⟨h3,h4⟩:=fv k h1 h2;refine⟨(kF.same k (by omega) h4).trans h3,fun h=>?_⟩;rcases kF.fp k h with h | h
  ·exact h4 h
  ·omega
 ·rintro D F Y hD dt ⟨hj,g⟩ dd;refine⟨_,rfl,dd,⟨_,rfl⟩,F,?_⟩;show J ((zbh (zaO m)).map (zav m)) F _;exact hJ.step _ _ _ _ hj (.put (by omega) dt _)
 ·rintro D ex al F Y hD dt a8 h;exact h.elim
end
end Go.Proofs.YtakcdebpklffiaaGreatDoor
namespace Go.Sei
theorem zni{p:Nat->Bool}{n k:Nat}(hk:k<n)(h:p k=false):(List.range n).all p=false:=by
 rw[KF];exact⟨k,Ue.2 hk,by rw[h];decide⟩
theorem zpf{p:Nat->Bool}{k:Nat}(h:(List.range k).all p=true)(hp:p k=true):(List.range (k+1)).all p=true:=by
 rw[QL,Qz,h];simp[hp]
theorem zlp{a j:Nat}:(2^a).testBit j=decide (j=a):=by
 rw[Kj];exact Qw.2 ⟨fun e=>e.symm,fun e=>e.symm⟩
theorem zlo{a:Nat}:∀(l:List Nat) (f:Nat->Nat) (b j:Nat),((l.foldl (fun f b=>upd f b (f b|||2^a)) f) b).testBit j=((f b).testBit j||(decide (b∈l)&&decide (j=a)))
 | [],f,b,j=>by simp
 | x::l,f,b,j=>by
  rw[QC,zlo l];by_cases c:b=x
  ·subst c;rw[qM,Nat.testBit_or,zlp];by_cases d:b∈l <;> by_cases e:j=a <;> simp[d,e]
  ·rw[zak _ _ c];simp[c]
theorem zeV(tf:Nat->Nat):∀(n b j:Nat),(j4 tf n b).testBit j=(decide (j<n)&&decide (b∈els (tf j)))
 | 0,b,j=>by
  show(0:Nat).testBit j=_;simp
 | n+1,b,j=>by
  have d:=zeV tf n b j;unfold j4 at d ⊢;rw[QL,KL,QC,List.foldl_nil,zlo,d];by_cases a:j=n
  ·subst a;simp
  ·by_cases c:j<n
   ·rw[Uh c,Uh (by omega:j<n+1),QX a];simp
   ·rw[QX c,QX (by omega:¬j<n+1),QX a];simp
theorem zpb{r:RelD}(h:okR r=true){b j:Nat}:((qI r).to b).testBit j=(decide ((j:Int)<r.n)&&decide (b∈els (r.to j))):=by
 have a:0<=r.n:=by
  unfold okR at h;rw[bAT,dE] at h;exact h.1
 have e:qI r=⟨r.n,j4 r.to r.n.toNat⟩:=Gd h;rw[e];show(j4 r.to r.n.toNat b).testBit j=_;rw[zeV];congr 1;exact Qw.2 (by omega)
theorem zlW{s:Nat}(h0:s≠0)(h:s<2^64):ctz s∈els s:=by
 rw[(jg h0 h).1];exact Ku
end Go.Sei
namespace Go.Proofs.YtakcdebpklffiaaGreatDoor
open Go.Vc Go.RowKit Go.Sei
section
variable{b c:Nat}{x:ExD}{q:OA}{w:Wd}
theorem zdA{k:Nat}:x.ev.getD k ev0=evA x k:=rfl
theorem zms(fx:ExH w b x q c)(hv:ExW w x q)(hn:x.rf.n=x.ev.length)(hok:okR x.rf=true)(hT:Tz64M w):CB 58 #[At0 b] w (.bool (zbo x)):=by
 refine qg 72 [At0 b] (.s .p (.c .p .p)) Tryz.func58 ?_;obtain⟨g,an⟩:∃f,f=qI x.rf:=⟨_,rfl⟩;have a3:=hv.n;refine⟨Nat,fun F=>⟨[(0,At0 b),(3,At0 F)],[]⟩,fun F X=>zQ X F g/\zG g.to/\w.heap.size<=F/\Bw w X,?_,?_⟩
 ·refine⟨zd x.rf,ze _,?_,hlt fx,?_⟩
  ·have h:=zI (n:=50) (m:=49) (za fx);obtain⟨A,T,hA,hE⟩:=zoR x q c;have e:=hE x.rf;have e2:(exC x q c).drop 50=zd x.rf++T:=by
    show(exC { x with rf:=x.rf } q c).drop 50=_;rw[e,<- hA,Ub]
   have e3:((exC x q c).toArray.toList.drop 50).take 49=zd x.rf:=by
    show((exC x q c).drop 50).take 49=_;rw[e2,Je (by rw[ze];decide),JB (by rw[ze];decide)]
   rw[e3] at h;exact h
  refine cmo (zgL hv.rf hT) ?_;rintro e Y ⟨rfl,ac,ai⟩;refine zr (X:=Y) (v := .agg (zd (qI x.rf)).toArray) k76 (ze _) (by kernel_rfl) (zD _) fun Z ah fZ sZ=>?_;rw[<- an] at fZ ai;exact⟨Y.heap.size,(cvE rfl rfl),fZ,ai,ac.size,(zst ac ah)⟩
 rintro F X ⟨fF,ai,hF,y⟩;have ar:∀i j,(g.to i).testBit j=true->j<x.ev.length:=fun i j h=>by
  rw[an,zpb hok,bAT,dE,hn] at h;omega
 refine⟨_,zc (za (zb y fx)) (i:=0) rfl,Nat,fun k=>⟨[(0,At0 b),(3,At0 F),(18,.slice q x.ev.length c),(19,i64 x.ev.length),(20,i64 (k:Nat))],[]⟩,fun k X=>k<=x.ev.length/\(List.range k).all (fun i=>zct x (g.to i) (evA x i))=true/\zQ X F g/\Bw w X,fun k=>x.ev.length-k,0,(cvE rfl rfl),⟨UP _,rfl,fF,y⟩,?_⟩;have ak:zbo x=(List.range x.ev.length).all fun i=>zct x (g.to i) (evA x i):=by rw[an];rfl
 clear fF y;rintro k X ⟨hk,aw,fF,y⟩;dsimp only;have ax:=y.size;refine biE (fun hc=>?_) fun hc=>?_
 ·have hc:(k:Int)<(x.ev.length:Int):=dT hc;have aj:k<x.ev.length:=by omega
  obtain⟨bq,oq,av,hb,al⟩:=zbF (hv.ev.below y) aj;rw[zdA] at al;obtain⟨e,he⟩:=nm (evA x k);obtain⟨s,hs⟩:=nm (g.to k);rw[<- he] at al;have af:s<2^64:=by rw[hs];exact ai k (by omega)
  have a6:some (Value.slice q x.ev.length c)=some (Value.slice (some ⟨bq,oq,none⟩) x.ev.length c):=by rw[av]
  subst av;refine⟨k,rfl,aj,evE.enc e,rfl,al,hb,zr (X:=X) (v := .agg (evE.enc e).toArray) k80 rfl rfl (Qa.2 fun u hu=>evE.one e u hu) fun Y ac fY sY=>?_⟩;have fY:Y.heap[X.heap.size]?=some (.cells (evE.enc e).toArray 80 (0,0)):=fY;have z:=y.trans (ac.mono ax);have no:∀{Z:Wd},Bw w Z->zct x s e=false->(Ending.returned (.bool false)=Ending.returned (.bool (zbo x))/\Bw w Z):=fun{Z} hb h=>⟨rb (by
   rw[ak];symm;exact zni aj (by rw[<- hs,<- he];exact h)),hb⟩
  have ap:∀{Z:Wd},zQ Z F g->Bw w Z->zct x s e=true->(k+1<=x.ev.length/\(List.range (k+1)).all (fun i=>zct x (g.to i) (evA x i))=true/\zQ Z F g/\Bw w Z):=fun{Z} f hb h=>⟨aj,zpf aw (by rw[<- hs,<- he];exact h),f,hb⟩;refine⟨k,rfl,by omega,?_⟩;refine⟨s64 s,by rw[hs];exact j6 (zb ac fF) (by omega),u8 e.k,zc (za fY) (i:=1) rfl,biE (fun h=>?_) fun h=>?_⟩
  ·have h:¬e.k=1:=by
    have h:(!decide ((e.k.toNat:Int)=((1:UInt8).toNat:Int)))=true:=h;intro e2;rw[e2] at h;simp at h
   have r:zct x s e=decide (s=0):=Gc h;refine biE (fun o=>?_) fun o=>?_
   ·have o:¬s=0:=by
     have o:(!decide ((s:Int)=0))=true:=o;intro e2;rw[e2] at o
     cases o
    exact no z (by rw[r];exact QX o)
   ·have o:s=0:=by
     have o:(!decide ((s:Int)=0))=false:=o;have o:(s:Int)=0:=(by simpa using o);omega
    exact nxI (by omega) ⟨k+1,(cvE rfl rfl),ap (zb ac fF) z (by rw[r];exact Uh o),zdc (by omega)⟩
  have h:e.k=1:=by
   have h:(!decide ((e.k.toNat:Int)=((1:UInt8).toNat:Int)))=false:=h;exact qm.1 (by simpa using h)
  refine cmo (zas af (hT.below z)) ?_;rintro e2 Z ⟨rfl,ah⟩;have ay:=z.size;have aa:=z.trans (ah.mono ay);have fZ:=zb ah fY;have a1:=zb ah (zb ac fF);by_cases ae:s=0
  ·have e1:(els s).isEmpty=true:=by rw[ae];rfl
   rw[e1];refine brT (brT (no aa ?_));unfold zct;rw[Gd h,Gd ae]
  obtain⟨hd,a0⟩:=zbf ae af;rw[hd,a0];have aq:=zlW ae af;have au:s.testBit (ctz s)=true:=(zh5.1 aq).2;have ao:ctz s<x.ev.length:=ar k _ (by rw[<- hs];exact au);refine brF ⟨by omega,((2^ctz s:Nat):Int),jn (e:=ctz s) (by omega),biE (fun o=>?_) fun o=>?_⟩
  ·have o:¬s=2^ctz s:=by
    have o:(!decide ((s:Int)=((2^ctz s:Nat):Int)))=true:=o;intro e2;rw[<- e2] at o;simp at o
   refine no aa ?_;unfold zct;rw[Gd h,Gc ae,Gc o]
  have o:s=2^ctz s:=by
   have o:(!decide ((s:Int)=((2^ctz s:Nat):Int)))=false:=o;have o:(s:Int)=((2^ctz s:Nat):Int):=by simpa using o
   exact Uo o
  obtain⟨t,ht⟩:=nm (ctz s);rw[<- ht] at ao o ⊢;obtain⟨a4,a5,ab,az,ag⟩:=zbF (hv.ev.below aa) ao;rw[zdA] at ag;obtain⟨f,hf⟩:=nm (evA x t);rw[<- hf] at ag;have r:zct x s e=(decide (f.k=2)&&(decide (f.l=e.l)&&decide (f.v=e.v))):=by
   unfold zct;rw[Gd h,Gc ae,<- ht,Gd o,<- hf]
  refine⟨_,zc (za (zb aa fx)) (i:=0) rfl,t,rfl,ao,?_⟩;refine⟨evE.enc f,rfl,by
   simp only[KS,Uj,UX] at ab;rw[ab.1,ab.2];exact ag,by
   simp only[KS,Uj,UX] at ab;rw[ab.1];exact az,?_⟩
  refine zr (X:=Z) (v := .agg (evE.enc f).toArray) k80 rfl rfl (Qa.2 fun u hu=>evE.one f u hu) fun V am fV sV=>?_;have fV:V.heap[Z.heap.size]?=some (.cells (evE.enc f).toArray 80 (0,0)):=fV;have ad:=zst aa am;have fe:=zb am fZ;have a2:=zb am a1;have n8:∀{a d:UInt8},(!decide ((a.toNat:Int)=(d.toNat:Int)))=true->¬a=d:=fun{a d} h e2=>by
   rw[e2] at h;simp at h
  have y8:∀{a d:UInt8},(!decide ((a.toNat:Int)=(d.toNat:Int)))=false->a=d:=fun{a d} h=>qm.1 (by simpa using h);refine⟨u8 f.k,zc (za fV) (i:=1) rfl,biE (fun h3=>?_) fun h3=>?_⟩
  ·have h3:¬f.k=2:=n8 (d:=2) h3;exact brT (brT (no ad (by rw[r,QX h3];rfl)))
  have h3:f.k=2:=y8 (d:=2) h3;refine⟨u8 f.l,zc (za fV) (i:=2) rfl,u8 e.l,zc (za fe) (i:=2) rfl,biE (fun h4=>?_) fun h4=>?_⟩
  ·have h4:¬f.l=e.l:=n8 h4;exact brT (no ad (by rw[r,QX h4,QZ,QY]))
  have h4:f.l=e.l:=y8 h4;refine⟨u8 f.v,zc (za fV) (i:=3) rfl,u8 e.v,zc (za fe) (i:=3) rfl,biE (fun h5=>?_) fun h5=>?_⟩
  ·have h5:¬f.v=e.v:=n8 h5;exact no ad (by rw[r,QX h5,QY,QY])
  have h5:f.v=e.v:=y8 h5;exact nxI (by omega) ⟨k+1,(cvE rfl rfl),ap a2 ad (by rw[r,Uh h3,Uh h4,Uh h5];rfl),zdc (by omega)⟩
 ·have hc:¬(k:Int)<(x.ev.length:Int):=dF hc;obtain rfl:k=x.ev.length:=by omega
  exact⟨rb (by rw[ak];exact aw.symm),y⟩
end
theorem zsG{bx n:Nat}{w:Wd}{i:Nat}(f:w.heap[bx]?=some (.cells #[i64 (n:Nat)] 3 (0,0)))(hn:n<=1000):Calls PG 190 #[i64 (i:Nat),At0 bx] w fun e w'=>e = .returned (.bool true)/\w'.heap[bx]?=some (.cells #[i64 (n+1:Nat)] 3 (0,0))/\w.grownBy w' (some bx):=by
 refine zC 6 [i64 (i:Nat),At0 bx] Tryz.func190 ?_;exact⟨_,zc (za f) (i:=0) rfl,nxI (by omega) (zn k3 f (o:=0) (v:=i64 (n+1:Nat)) rfl rfl (by show 0<1;decide) rfl fun w' a d g=>⟨rfl,a,d⟩)⟩
theorem zjy{bs bx s:Nat}{w:Wd}(fs:w.heap[bs]?=some (.cells #[s64 s] 73 (0,0)))(fx:w.heap[bx]?=some (.cells #[i64 (0:Nat)] 3 (0,0)))(hs:s<2^64)(hT:Tz64M w)(hbx:7≠bx) :
  Calls PG 254 #[.func (.func 190) #[] #[At0 bx],At0 bs] w fun e w'=>(∃v,e = .returned v)/\w'.heap[bx]?=some (.cells #[i64 (zbR s:Nat)] 3 (0,0))/\w.grownBy w' (some bx):=by
 refine zC 16 [.func (.func 190) #[] #[At0 bx],At0 bs] Tryz.func254 ?_;refine⟨_,zc (za fs) (i:=0) rfl,Nat×Nat,fun q=>⟨[(0,.func (.func 190) #[] #[At0 bx]),(3,s64 q.2)],[]⟩,fun q X=>X.heap[bx]?=some (.cells #[i64 (q.1:Nat)] 3 (0,0))/\q.1+zbR q.2=zbR s/\q.2<2^64/\w.grownBy X (some bx),fun q=>q.2,(0,s),(cvE rfl rfl),⟨fx,UH _,hs,qP _ _⟩,?_⟩;rintro⟨n,r⟩ X ⟨f,j,k,l⟩;dsimp only at f j k ⊢;have t:=zee s;refine biE (fun d=>?_) fun d=>?_
 ·have d:(!decide ((r:Int)=0))=true:=d;have d:¬(r:Int)=0:=by simpa using d
  have g:r≠0:=by omega
  obtain⟨p,u,_,_⟩:=jg g k;have hl:zbR r=zbR (qA r)+1:=by unfold zbR;rw[p];rfl
  have m:Tz64M X:=jJ hT (l.block _ (zal hT) (by simpa using hbx));refine cmo (znt m g k) ?_;rintro e _ ⟨rfl,rfl⟩;have h:n<=1000:=by unfold zbR at j;omega
  refine cmo (zsG f h) ?_;rintro e V ⟨rfl,y,o⟩;exact brF ⟨((r-1:Nat):Int),(zcn (a:=(r:Int)-1) (by omega)).trans (by omega),((qA r:Nat):Int),jo (a:=r) (b:=r-1) k (by omega),(n+1,qA r),(cvE rfl rfl),⟨y,by show n+1+zbR (qA r)=_;omega,by show qA r<_;omega,zf l o⟩,u⟩
 ·have d:(!decide ((r:Int)=0))=false:=d;have d:(r:Int)=0:=by simpa using d
  obtain rfl:r=0:=by omega
  have z:zbR 0=0:=rfl;rw[z,UB] at j;exact⟨⟨_,rfl⟩,by rw[<- j];exact f,l⟩
theorem zrA{s:Nat}{w:Wd}(hs:s<2^64)(hT:Tz64M w):CB 121 #[s64 s] w (i64 (zbR s:Nat)):=by
 refine qg 11 [s64 s] (.s .p (.c .p .p)) Tryz.func121 ?_;obtain⟨L,g⟩:=nm (w.heap.size);refine⟨Unit,fun _=>⟨[(0,s64 s),(3,At0 L)],[]⟩,fun _ Y=>Y.heap[L]?=some (.cells #[i64 (0:Nat)] 3 (0,0))/\Y.heap.size=L+1/\Bw w Y,?_,?_⟩
 ·refine zr (X:=w) (v:=i64 0) k3 rfl rfl rfl fun Y a f h=>?_;have f:Y.heap[w.heap.size]?=some (.cells #[i64 (0:Nat)] 3 (0,0)):=f;exact⟨(),⟨.cons rfl (.cons (by rw[g];rfl) .nil),rfl⟩,by rw[g];exact f,by rw[g];exact h,a⟩
 rintro _ Y ⟨f,h,a⟩;refine cmo zgw ?_;rintro e _ ⟨rfl,rfl⟩;have d:Bw Y (Y.alloc (.cells #[s64 s] 73)):=zba _ _;have k:=zal hT;refine cmo (zjy (zw Y _) (zb d f) hs ((hT.below a).below d) (by omega)) ?_;rintro e Z ⟨⟨v,rfl⟩,l,j⟩;refine⟨_,zc (za l) (i:=0) rfl,rfl,?_⟩;exact((zst a d)).trans (zm j (by have:=a.size;have:=d.size;omega) (by omega))
def zim (x y:Nat):Int:=if x<y then -1 else if y<x then 1 else 0
theorem zoi{x:Nat}{w:Wd}:Calls PG 189 #[i64 (x:Nat)] w fun e w'=>e = .returned (.bool false)/\w=w':=by
 refine zC 6 [i64 (x:Nat)] Tryz.func189 ?_;exact⟨rb (by simp),rfl⟩
theorem zk8{x y:Nat}{w:Wd}:Calls PG 120 #[i64 (x:Nat),i64 (y:Nat)] w fun e w'=>e = .returned (i64 (zim x y))/\w=w':=by
 refine zC 20 [i64 (x:Nat),i64 (y:Nat)] Tryz.func120 ?_;refine cmo zoi ?_;rintro e _ ⟨rfl,rfl⟩;refine cmo zoi ?_;rintro e _ ⟨rfl,rfl⟩;refine brF (brF (biE (fun h=>?_) fun h=>?_))
 ·have h:(x:Int)<y:=dT h;exact⟨ri (by unfold zim;rw[Gd (by omega)]),rfl⟩
 have h:¬(x:Int)<y:=dF h;refine biE (fun a=>?_) fun a=>?_
 ·have a:(y:Int)<x:=dT a;exact⟨ri (by unfold zim;rw[Gc (by omega),Gd (by omega)]),rfl⟩
 ·have a:¬(y:Int)<x:=dF a;exact⟨ri (by unfold zim;rw[Gc (by omega),Gc (by omega)]),rfl⟩
section
variable{b c L:Nat}{x:ExD}{q:OA}{w:Wd}
theorem zoZ{X:Wd}(fx:ExH X b x q c){i:Nat}(hi:i<48):X.cell? ⟨b,0+99+1+i*1,none⟩=some (s64 (x.co.to i)):=by
 obtain⟨A,T,e,d⟩:=zkM x q c;have a:RelAt X b 99 78 A T x.co:=⟨e,by rw[<- d];exact fx⟩;exact a.cell hi
theorem zsu{u v:Nat}(fx:ExH w b x q c)(fL:w.heap[L]?=some (.cells #[At0 b] 134 (0,0)))(hco:zG x.co.to)(hu:u<48)(hv:v<48)(hT:Tz64M w) :
  CB 119 #[i64 (u:Nat),i64 (v:Nat),At0 L] w (i64 (zim (zbR (x.co.to v)) (zbR (x.co.to u)))):=by
 refine zC 23 [i64 (u:Nat),i64 (v:Nat),At0 L] Tryz.func119 ?_;refine DrawE.ord [] [0,1,2,3,4,5,6,8,9,10,11,12,13,14,7,15,16,17] (by kernel_rfl) ?_;have f:Bw w w.drew:=(UR _ _).drew;refine⟨_,zc (za (hdr fL)) (i:=0) rfl,v,rfl,hv,_,zoZ (hdr fx) hv,_,zc (za (hdr fL)) (i:=0) rfl,u,rfl,hu,_,zoZ (hdr fx) hu,cmo (zrA (hco v hv) (hT.below f)) ?_⟩;rintro e X ⟨rfl,a⟩;refine⟨a,cmo (zrA (hco u hu) ((hT.below f).below a)) ?_⟩;rintro e Y ⟨rfl,d⟩;refine⟨d,cmo zk8 ?_⟩;rintro e _ ⟨rfl,rfl⟩;exact⟨UR _ _,rfl,(f.trans a).trans (d.mono a.size)⟩
end
theorem zgk{key:Nat->Nat}{x:Nat}:∀(B A:List Nat),(∀y∈B,key y<key x)->jD key (B++A) x=B++jD key A x
 | [],A,_=>rfl
 | y::B,A,h=>by
  show(if key y<key x then y::jD key (B++A) x else x::y::(B++A))=_;rw[Gd (h y Ku),zgk B A fun z a=>h z (JR _ a)];rfl
theorem zgj{key:Nat->Nat}{x:Nat}:∀r:List Nat,(jD key r x).length=r.length+1
 | []=>rfl
 | y::r=>by
  unfold jD
  split
  ·show(jD key r x).length+1=_;rw[zgj r];rfl
  ·rfl
theorem zgi{key:Nat->Nat}{x a:Nat}:∀r:List Nat,a∈jD key r x↔a=x\/a∈r
 | []=>by simp [jD]
 | y::r=>by
  unfold jD
  split
  ·rw[Ur,zgi r,Ur];constructor
   ·rintro(h | h | h) <;> simp[h]
   ·rintro(h | h | h) <;> simp[h]
  ·simp
def zdK (key:Nat->Nat) (l:List Nat):List Nat:=l.foldl (fun acc x=>jD key acc x) []
theorem zkc(key:Nat->Nat)(l:List Nat)(x:Nat):zdK key (l++[x])=jD key (zdK key l) x:=by
 unfold zdK;rw[KL];rfl
theorem zbC{key:Nat->Nat}{a:Nat}:∀(l acc:List Nat),a∈l.foldl (fun acc x=>jD key acc x) acc↔a∈l\/a∈acc
 | [],acc=>by simp
 | x::l,acc=>by
  rw[QC,zbC l,zgi,Ur];constructor
  ·rintro(h | h | h) <;> simp[h]
  ·rintro((h | h) | h) <;> simp[h]
theorem zbD{key:Nat->Nat}:∀(l acc:List Nat),(l.foldl (fun acc x=>jD key acc x) acc).length=l.length+acc.length
 | [],acc=>by simp
 | x::l,acc=>by
  rw[QC,zbD l,zgj,Qj];omega
theorem zmi{key:Nat->Nat}{l:List Nat}{a:Nat}:a∈zc8 key l↔a∈l:=by
 unfold zc8;rw[List.mem_reverse,zbC];simp
theorem zmj{key:Nat->Nat}(l:List Nat):(zc8 key l).length=l.length:=by
 unfold zc8;rw[Ke,zbD];rfl
section
variable{b c L g cap:Nat}{x:ExD}{q:OA}{w:Wd}{l:List Nat}
abbrev zb6 (x:ExD):Nat->Nat:=fun i=>zbR (x.co.to i)
theorem zgh{B:Nat}(ho:OwnS zB 3 B w (some ⟨g,0,none⟩) cap l)(fx:ExH w b x q c)(fL:w.heap[L]?=some (.cells #[At0 b] 134 (0,0)))(hT:Tz64M w)(htg:7≠g)(hco:zG x.co.to)(h48:∀a∈l,a<48)(hn:l.length<=20)(hn1:1<=l.length) :
  Calls PG 256 #[.slice (some ⟨g,0,none⟩) l.length cap,i64 0,i64 l.length,.func (.func 119) #[] #[At0 L]] w fun e w'=>e = .returned (.tuple #[])/\OwnS zB 3 B w' (some ⟨g,0,none⟩) cap (zc8 (zb6 x) l)/\w.grownBy w' (some g):=by
 refine qg 53 [.slice (some ⟨g,0,none⟩) l.length cap,i64 0,i64 l.length,.func (.func 119) #[] #[At0 L]] (.c .p .p) Tryz.func256 ?_;obtain⟨E0,a3⟩:∃E0:List (Nat×Value),E0=[(0,.slice (some ⟨g,0,none⟩) l.length cap),(1,i64 0),(2,i64 l.length),(3,.func (.func 119) #[] #[At0 L])]:=⟨_,rfl⟩;have am:b≠g:=fun e=>by
  obtain⟨_,_,au,f⟩:=zx ho rfl;have f:w.heap[g]?=_:=f;rw[<- e,fx] at f;simp at f
 have an:L≠g:=fun e=>by
  obtain⟨_,_,au,f⟩:=zx ho rfl;have f:w.heap[g]?=_:=f;rw[<- e,fL] at f;simp at f
 refine⟨Unit,fun _=>⟨[(0,.slice (some ⟨g,0,none⟩) l.length cap),(1,i64 0),(2,i64 l.length),(3,.func (.func 119) #[] #[At0 L]),(8,i64 1)],[]⟩,fun _ X=>w=X,?_,?_⟩
 ·exact⟨1,zg (by omega),(),(cvE rfl rfl),rfl⟩
 rintro _ _ rfl;have ax:l.take 1=(zdK (zb6 x) (l.take 1)).reverse:=by
  cases l with
  | nil=>simp at hn1
  | cons a l=>rfl
 refine⟨Nat,fun i=>⟨[(0,.slice (some ⟨g,0,none⟩) l.length cap),(1,i64 0),(2,i64 l.length),(3,.func (.func 119) #[] #[At0 L]),(8,i64 (i:Nat))],[]⟩,fun i X=>(1<=i/\i<=l.length)/\OwnS zB 3 B X (some ⟨g,0,none⟩) cap ((zdK (zb6 x) (l.take i)).reverse++l.drop i)/\w.grownBy X (some g),fun i=>l.length-i,1,
  (cvE rfl rfl),⟨⟨UN _,hn1⟩,by rw[<- ax,JL];exact ho,qP _ _⟩,?_⟩
 rintro i X ⟨⟨a1,hi⟩,oX,gX⟩;dsimp only;refine biE (fun f=>?_) fun f=>?_
 ·have f:(i:Int)<(l.length:Int):=dT f;have n:i<l.length:=by omega
  obtain⟨u,hu⟩:∃u,l[i]=u:=⟨_,rfl⟩;have aw:u∈l:=by rw[<- hu];exact gM n
  obtain⟨S,hS⟩:=nm (zdK (zb6 x) (l.take i));have ao:∀a∈S,a<48:=fun a ha=>by
   rw[hS] at ha;have:=(zbC (key:=zb6 x) (l.take i) []).1 ha;rcases this with h | h
   ·exact h48 a (JT h)
   ·cases h
  have ac:S.length=i:=by
   rw[hS];unfold zdK;rw[zbD,Ql];simp;omega
  have ak:zdK (zb6 x) (l.take (i+1))=jD (zb6 x) S u:=by
   rw[tsg n,hu,zkc,<- hS]
  rw[<- hS,<- JA n,hu] at oX;refine⟨List Nat×List Nat,fun s=>⟨[(0,.slice (some ⟨g,0,none⟩) l.length cap),(1,i64 0),(2,i64 l.length),(3,.func (.func 119) #[] #[At0 L]),(8,i64 (i:Nat)),(9,i64 s.1.length)],[]⟩,fun s Y=>S.reverse=s.1++s.2/\(∀y∈s.2,zb6 x y<zb6 x u)/\OwnS zB 3 B Y (some ⟨g,0,none⟩) cap (s.1++u::(s.2++l.drop (i+1)))/\w.grownBy Y (some g),fun s=>s.1.length,(S.reverse,[]),
   ⟨.cons rfl (.cons rfl (.cons rfl (.cons rfl (.cons rfl (.cons (by show _=some (i64 (S.reverse.length:Nat));rw[Ke,ac];rfl) .nil))))),rfl⟩,⟨by rw[QA],fun y hy=>(by cases hy),oX,gX⟩,?_⟩
  clear oX gX;rintro⟨A,Bs⟩ Y ⟨j,ab,oY,t⟩;dsimp only at j ab oY ⊢;have ay:A.length<=i:=by
   have:=UY List.length j;rw[Ke,ac,lap] at this;omega
  have aa:Bw Y Y.drew:=(UR _ _).drew;have ad:∀{Z:Wd},Bw Y Z->jD (zb6 x) A.reverse u=u::A.reverse->((1<=i+1/\i+1<=l.length)/\OwnS zB 3 B Z (some ⟨g,0,none⟩) cap ((zdK (zb6 x) (l.take (i+1))).reverse++l.drop (i+1))/\w.grownBy Z (some g)):=fun{Z} hb ae=>by
   refine⟨⟨by omega,n⟩,?_,qO t (hb.mono t.size)⟩;have h1:S=Bs.reverse++A.reverse:=by rw[<- Kh,<- j,List.reverse_reverse]
   rw[ak,h1,zgk _ _ (fun y hy=>ab y (by simpa using hy)),ae];have h2:(Bs.reverse++u::A.reverse).reverse++l.drop (i+1)=A++u::(Bs++l.drop (i+1)):=by simp
   rw[h2];exact oY.below hb
  refine DrawE.ord [] [0,1,2,3,4,5,6,7,8,9,10,11,12,13,14,15,16] (by kernel_rfl) (biE (fun h=>?_) fun h=>?_)
  ·have h:(0:Int)<(A.length:Int):=dT h;obtain⟨A',y,hA⟩:∃A' y,A=A'++[y]:=by
    refine⟨A.dropLast,A.getLast (fun e=>by rw[e] at h;simp at h),(List.dropLast_concat_getLast _).symm⟩
   subst hA;have o:(A'++[y]).length=A'.length+1:=by simp
   rw[o] at ay h ⊢;have d:((A'++[y])++u::(Bs++l.drop (i+1))).length=l.length:=by
    have:=UY List.length j;rw[Ke,ac] at this;simp only[lap,Qj,QE,Qk] at this ⊢;omega
   have aq:y<48:=ao y (by
    have:y∈S.reverse:=(by rw[j];simp);simpa using this)
   obtain⟨b',o',ah,a0,r⟩:=oY.row.at (i:=A'.length) (by rw[d];omega);have av:b'=g/\o'=0:=by simpa using ah.symm
   obtain⟨rfl,rfl⟩:=av;have c1:Y.cell? ⟨b',0+(A'.length+1)*1,none⟩=some (i64 u):=by
    have:=zc (r (A'.length+1) (by rw[d];omega)) (i:=0) (v:=i64 u) (by
     have e:((A'++[y])++u::(Bs++l.drop (i+1)))[A'.length+1]?=some u:=by
      rw[Jj (by simp),o,UE];rfl
     rw[gE (by rw[d];omega)] at e;rw[QV e];rfl)
    exact this
   have c2:Y.cell? ⟨b',0+A'.length*1,none⟩=some (i64 y):=by
    have:=zc (r A'.length (by rw[d];omega)) (i:=0) (v:=i64 y) (by
     have e:((A'++[y])++u::(Bs++l.drop (i+1)))[A'.length]?=some y:=by
      rw[KH,Jj (UN _),UE];rfl
     rw[gE (by rw[d];omega)] at e;rw[QV e];rfl)
    exact this
   refine⟨A'.length+1,rfl,by omega,?_⟩;refine⟨_,c1,(A'.length:Nat),(zg (by omega)).trans (by omega),A'.length,rfl,by omega,?_⟩;refine⟨_,c2,?_⟩;have ap:ExH Y b x q c:=(t.block b (hlt fx) (by simpa using am)).trans fx;have ai:Y.heap[L]?=some (.cells #[At0 b] 134 (0,0)):=(t.block L (hlt fL) (by simpa using an)).trans fL;have aj:Tz64M Y:=jJ hT (t.block _ (zal hT) (by simpa using htg));refine cmo (zsu (hdr ap) (hdr ai) hco (h48 u aw) aq (aj.below aa)) ?_;rintro e Z ⟨rfl,ag⟩;refine⟨ag,?_⟩;have k:=aa.trans ag;refine biE (fun m=>?_) fun m=>?_
   ·have m:zim (zbR (x.co.to y)) (zbR (x.co.to u))<0:=dT m;have hk:zb6 x y<zb6 x u:=by
     unfold zim at m;by_cases h1:zbR (x.co.to y)<zbR (x.co.to u)
     ·exact h1
     ·rw[Gc h1] at m
      split at m <;> omega
    have oZ:=oY.below k;have gZ:=qO t (k.mono t.size);obtain⟨b2,o2,al,a2,az⟩:=oZ.row.at (i:=A'.length) (by rw[d];omega);have af:b2=b'/\o2=0:=(by simpa using al.symm);obtain⟨rfl,rfl⟩:=af;have dZ:Bw Z Z.drew:=(UR _ _).drew;have d1:=zbj k c1;have d2:=zbj k c2;refine DrawE.ord [15,17] [0,1,2,3,4,5,6,7,8,9,10,11,12,13,14,15,16,17] (by kernel_rfl) ⟨(A'.length:Nat),(zg (by omega)).trans (by omega),(A'.length:Nat),(zg (by omega)).trans (by omega),A'.length,rfl,by omega,?_⟩;refine⟨_,d2,A'.length+1,rfl,by omega,?_⟩;refine⟨_,d1,A'.length+1,rfl,by omega,?_⟩;refine zhZ (i:=A'.length+1) (v:=y) k3 rfl (oZ.below dZ) (by rw[d];omega) fun V oV gV=>⟨A'.length,rfl,by omega,?_⟩;refine zhZ (i:=A'.length) (v:=u) k3 rfl oV (by rw[QF,d];omega) fun U oU gU=>?_;have e1:(((A'++[y])++u::(Bs++l.drop (i+1))).set (A'.length+1) y).set A'.length u=A'++u::((y::Bs)++l.drop (i+1)):=by
     rw[KH,JK _ _ (by omega),Jt,JK _ _ (by omega),UE];rfl
    rw[e1] at oU;refine⟨(A'.length:Nat),(zg (by omega)).trans (by omega),(A',y::Bs),(cvE rfl rfl),⟨by rw[j];simp,fun z hz=>?_,oU,zf (zf (qO gZ (dZ.mono gZ.size)) gV) gU⟩,by show A'.length<_;omega⟩;rcases Ur.1 hz with hz | hz
    ·rw[hz];exact hk
    ·exact ab z hz
   ·have m:¬zim (zbR (x.co.to y)) (zbR (x.co.to u))<0:=dF m;have hk:¬zb6 x y<zb6 x u:=fun h=>m (by unfold zim;rw[Gd h];decide);refine nxI (by omega) ⟨i+1,(cvE rfl rfl),ad k ?_,zdc (by omega)⟩;rw[Kh];exact Gc hk
  ·have h:¬(0:Int)<(A.length:Int):=dF h;have ar:A=[]:=List.length_eq_zero_iff.1 (by omega);subst ar;exact brF (nxI (by omega) ⟨i+1,(cvE rfl rfl),ad aa rfl,zdc (by omega)⟩)
 ·have f:¬(i:Int)<(l.length:Int):=dF f;obtain rfl:i=l.length:=by omega
  rw[Qn,Qd,QA] at oX;exact⟨rfl,oX,gX⟩
end
theorem zsU:∃G,TyEq PG 50 true 6 2 G/\∀f:Nat->UInt8,G (seg 6 fun i=>u8 (f i)):=by
 refine⟨_,.array (m:=6) (by decide) Tryz.underlying50 (fun w=>Tryz.isAgg50 w) (qr (by kernel_rfl) (by kernel_rfl)).1 (by kernel_rfl) tU8,fun f i d=>⟨((f i).toNat:Int),?_⟩⟩;unfold zX;have h:=jV (n:=6) (fun i=>u8 (f i)) d;rw[UO];have a:i<(seg 6 fun i=>u8 (f i)).length:=by rw[zy];exact d
 rw[<- JA a,List.take_succ_cons,Uf];rw[gE a] at h;rw[QV h];rfl
theorem zom{f g:Nat->UInt8}:seg 6 (fun i=>u8 (f i))=seg 6 (fun i=>u8 (g i))↔((List.range 6).all fun l=>decide (f l=g l))=true:=by
 rw[Qa];constructor
 ·intro h i a;have a:=Ue.1 a;have d:=jV (n:=6) (fun i=>u8 (f i)) a;rw[h,jV (n:=6) (fun i=>u8 (g i)) a] at d;have e:=QV d;unfold u8 at e;injection e with _ h5;exact Uh (qm.1 h5).symm
 ·intro h;unfold seg;refine Kf fun i a=>?_;rw[dT (h i a)]
theorem zoU(x y:Operand)(f g:Nat->UInt8)(w:Wd):(do eqGuard .eql 50 x y (.agg (seg 6 fun i=>u8 (f i)).toArray) (.agg (seg 6 fun i=>u8 (g i)).toArray);binOp .eql 50 (.agg (seg 6 fun i=>u8 (f i)).toArray) (.agg (seg 6 fun i=>u8 (g i)).toArray)).run PG w = .ok (.bool ((List.range 6).all fun l=>decide (f l=g l))) w:=by
 obtain⟨G,d,a⟩:=zsU;have:=zih d 9998 rfl (by kernel_rfl) (zy 6 _) (zy 6 _) (a f) (a g) x y w;rw[this,zbU zom,Bool.decide_eq_true]
section
variable{b c L g cap:Nat}{x:ExD}{q:OA}{w:Wd}{l:List Nat}
theorem ziH{B:Nat}(ho:OwnS zB 3 B w (some ⟨g,0,none⟩) cap l)(fx:ExH w b x q c)(fL:w.heap[L]?=some (.cells #[At0 b] 134 (0,0)))(hT:Tz64M w)(htg:7≠g)(hco:zG x.co.to)(h48:∀a∈l,a<48)(hn:l.length<=19)(hn1:1<=l.length) :
  Calls PG 188 #[.slice (some ⟨g,0,none⟩) l.length cap,i64 l.length,.func (.func 119) #[] #[At0 L]] w fun e w'=>e = .returned (.tuple #[])/\OwnS zB 3 B w' (some ⟨g,0,none⟩) cap (zc8 (zb6 x) l)/\w.grownBy w' (some g):=by
 refine zC 63 [.slice (some ⟨g,0,none⟩) l.length cap,i64 l.length,.func (.func 119) #[] #[At0 L]] Tryz.func188 ?_;refine⟨Unit,fun _=>⟨[(0,.slice (some ⟨g,0,none⟩) l.length cap),(1,i64 l.length),(2,.func (.func 119) #[] #[At0 L]),(6,i64 20),(7,i64 0),(8,i64 20)],[]⟩,fun _ X=>w=X,fun _=>0,(),(cvE rfl rfl),rfl,?_⟩;rintro _ _ rfl;refine brN (QX (by omega)) (cmo (zgh ho fx fL hT htg hco h48 (by omega) hn1) ?_);rintro e X ⟨rfl,d,f⟩;refine⟨Unit,fun _=>⟨[(1,i64 l.length),(6,i64 20)],[]⟩,fun _ Y=>X=Y,fun _=>0,(),(cvE rfl rfl),rfl,?_⟩;rintro _ _ rfl;exact brN (QX (by omega)) ⟨rfl,d,f⟩
theorem zkI{q:OA}{n m:Nat}(hm:m<=1000):Calls PG 256 #[.slice q n cap,i64 (m:Nat),i64 (m:Nat),.func (.func 119) #[] #[At0 L]] w fun e w'=>e = .returned (.tuple #[])/\w=w':=by
 refine zC 53 [.slice q n cap,i64 (m:Nat),i64 (m:Nat),.func (.func 119) #[] #[At0 L]] Tryz.func256 ?_;refine nxI (by omega) ⟨Unit,fun _=>⟨[(2,i64 (m:Nat)),(8,i64 ((m+1:Nat):Int))],[]⟩,fun _ X=>w=X,fun _=>0,(),(cvE rfl rfl),rfl,?_⟩;rintro _ _ rfl;exact brN (QX (by omega)) ⟨rfl,rfl⟩
theorem zmh{B:Nat}(ho:OwnS zB 3 B w (some ⟨g,0,none⟩) cap l)(fx:ExH w b x q c)(fL:w.heap[L]?=some (.cells #[At0 b] 134 (0,0)))(hT:Tz64M w)(htg:7≠g)(hco:zG x.co.to)(h48:∀a∈l,a<48)(hn:l.length<=20)(hn1:1<=l.length) :
  Calls PG 188 #[.slice (some ⟨g,0,none⟩) l.length cap,i64 l.length,.func (.func 119) #[] #[At0 L]] w fun e w'=>e = .returned (.tuple #[])/\OwnS zB 3 B w' (some ⟨g,0,none⟩) cap (zc8 (zb6 x) l)/\w.grownBy w' (some g):=by
 by_cases h:l.length<=19
 ·exact ziH ho fx fL hT htg hco h48 h hn1
 have d:l.length=20:=by omega
 refine zC 63 [.slice (some ⟨g,0,none⟩) l.length cap,i64 l.length,.func (.func 119) #[] #[At0 L]] Tryz.func188 ?_;refine⟨Bool,fun k=>⟨[(0,.slice (some ⟨g,0,none⟩) l.length cap),(1,i64 l.length),(2,.func (.func 119) #[] #[At0 L]),(6,i64 20),(7,i64 (if k=true then(0:Nat) else l.length:Nat)),(8,i64 (if k=true then l.length else 40:Nat))],[]⟩,fun k X=>(k=true/\w=X)\/(k=false/\OwnS zB 3 B X (some ⟨g,0,none⟩) cap (zc8 (zb6 x) l)/\w.grownBy X (some g)),fun k=>if k=true then 1 else 0,true,⟨.cons rfl (.cons rfl (.cons rfl (.cons rfl (.cons rfl (.cons (by rw[d];rfl) .nil))))),rfl⟩,.inl ⟨rfl,rfl⟩,?_⟩;rintro k X (⟨rfl,rfl⟩ | ⟨rfl,f,i⟩)
 ·refine brE (Uh (by show((l.length:Nat):Int)<=(l.length:Int);omega)) (cmo (zgh ho fx fL hT htg hco h48 hn hn1) ?_);rintro e X ⟨rfl,f,i⟩;refine⟨40,by rw[d];rfl,?_⟩;exact⟨false,(cvE rfl rfl),.inr ⟨rfl,f,i⟩,by decide⟩
 ·refine brN (QX (by show ¬((40:Nat):Int)<=(l.length:Int);omega)) (cmo (zkI (m:=l.length) (by omega)) ?_);rintro e _ ⟨rfl,rfl⟩;refine⟨Unit,fun _=>⟨[(1,i64 l.length),(6,i64 20)],[]⟩,fun _ Y=>X=Y,fun _=>0,(),(cvE rfl rfl),rfl,?_⟩;rintro _ _ rfl;exact brN (QX (by omega)) ⟨rfl,f,i⟩
theorem zgW{B:Nat}(ho:OwnS zB 3 B w (some ⟨g,0,none⟩) cap l)(fx:ExH w b x q c)(fL:w.heap[L]?=some (.cells #[At0 b] 134 (0,0)))(hT:Tz64M w)(htg:7≠g)(hco:zG x.co.to)(h48:∀a∈l,a<48)(hn:l.length<=20)(hn1:1<=l.length) :
  Calls PG 118 #[.slice (some ⟨g,0,none⟩) l.length cap,.func (.func 119) #[] #[At0 L]] w fun e w'=>e = .returned (.tuple #[])/\OwnS zB 3 B w' (some ⟨g,0,none⟩) cap (zc8 (zb6 x) l)/\w.grownBy w' (some g):=by
 refine zC 9 [.slice (some ⟨g,0,none⟩) l.length cap,.func (.func 119) #[] #[At0 L]] Tryz.func118 ?_;refine cmo (zmh ho fx fL hT htg hco h48 hn hn1) ?_;rintro e X ⟨rfl,f,d⟩;exact⟨rfl,f,d⟩
theorem zmO{l:List Nat}(h:0<l.length):l.headD 48=l[0]:=by
 cases l with
 | nil=>simp at h
 | cons a r=>rfl
theorem znl{k a:Nat}(h:a∈zbI x k):a<x.ev.length:=by
 unfold zbI at h;exact Ue.1 (QI.1 h).1
theorem zln{k a:Nat}(h:a∈qo x k):a<x.ev.length:=znl (zmi.1 h)
theorem zsb(q:OA)(c:Nat):((exC x q c).drop 99).take 49=zd x.co:=by
 obtain⟨A,T,d,a⟩:=zkM x q c;show((exC { x with co:=x.co } q c).drop 99).take 49=_;rw[a,<- d,Ub,Je (by rw[ze];decide),JB (by rw[ze];decide)]
theorem zqE(q:OA)(c:Nat):((exC x q c).drop 327).take 6=seg 6 fun i=>u8 (x.mem i):=by
 obtain⟨A,T,d,a⟩:=zoP x q c [];have:=a x.mem;rw[QA] at this;show((exC { x with mem:=x.mem } q c).drop 327).take 6=_;rw[this,<- d,Ub,Je (by rw[zy];decide),JB (by rw[zy];decide)]
abbrev zpn (X:Wd) (b:Nat) (f:Nat->UInt8):Prop:=X.heap[b]?=some (.cells (seg 6 fun i=>u8 (f i)).toArray 50 (0,0))
theorem zm3{locs:Nat}(fx:ExH w b x q c)(hv:ExW w x q)(hlo:locs<=6)(hne:∀l,l<locs->zbI x l≠[])(hT:Tz64M w) :
  CB 59 #[At0 b,i64 locs] w (.bool (zbv x locs)):=by
 refine qg 87 [At0 b,i64 locs] (.c .p (.c .p (.c .p (.c .p .p)))) Tryz.func59 ?_;obtain⟨L,hL⟩:=nm (w.heap.size);have cb:=hlt fx;have hn:=hv.n;have b8:=zal hT;refine⟨Unit,fun _=>⟨[(1,i64 locs),(2,At0 L)],[]⟩,fun _ X=>X.heap[L]?=some (.cells #[At0 b] 134 (0,0))/\X.heap.size=L+1/\Bw w X,⟨(),⟨.cons rfl (.cons (by rw[hL];rfl) .nil),rfl⟩,by rw[hL];exact zw w _,by rw[hL];exact wz _ _,(zba w _)⟩,?_⟩;rintro _ X ⟨z,sX,aa⟩;refine⟨Unit,fun _=>⟨[(1,i64 locs),(2,At0 L),(5,At0 (L+1))],[]⟩,fun _ Y=>zQ Y (L+1) ⟨x.ev.length,fun _=>0⟩/\Y.heap.size=L+2/\Bw X Y,?_,?_⟩
 ·refine⟨_,zc (za z) (i:=0) rfl,_,zc (za (zb aa fx)) (i:=0) rfl,zd ⟨x.ev.length,fun _=>0⟩,by kernel_rfl,?_⟩;refine zr (X:=X) (v := .agg (zd ⟨x.ev.length,fun _=>0⟩).toArray) k76 (ze _) (by kernel_rfl) (zD _) fun Z d fZ sZ=>?_;rw[sX] at fZ sZ;exact⟨(),⟨.cons rfl (.cons rfl (.cons (by rw[<- sX];rfl) .nil)),rfl⟩,fZ,sZ,d⟩
 rintro _ Y ⟨fT,sY,ap⟩;refine⟨Unit,fun _=>⟨[(1,i64 locs),(2,At0 L),(5,At0 (L+1)),(6,At0 (L+2))],[]⟩,fun _ Z=>zpn Z (L+2) (fun _=>0)/\zQ Z (L+1) ⟨x.ev.length,fun _=>0⟩/\Z.heap[L]?=some (.cells #[At0 b] 134 (0,0))/\Z.heap.size=L+3/\Bw w Z,?_,?_⟩
 ·exact⟨(),⟨.cons rfl (.cons rfl (.cons rfl (.cons (by rw[<- sY];rfl) .nil))),rfl⟩,by rw[<- sY];exact zw Y _,z6 _ fT,z6 _ (zb ap z),by rw[wz,sY],((zst aa ap)).alloc (by have:=aa.size;have:=ap.size;omega) _⟩
 clear z sX aa fT sY ap;clear X Y;rintro _ X ⟨fM,fT,z,sX,aa⟩;obtain⟨P0,am⟩:∃P0:RelD×(Nat->UInt8),P0=(⟨x.ev.length,fun _=>0⟩,fun _=>0):=⟨_,rfl⟩;have a6:zbv x locs=match zjI x locs 0 P0 with
  | none=>false
  | some p=>zbN p.1 x.co&&(List.range 6).all fun l=>decide (p.2 l=x.mem l):=by rw [am];rfl
 refine⟨RelD×(Nat->UInt8),fun P=>⟨[(2,At0 L),(5,At0 (L+1)),(6,At0 (L+2))],[]⟩,fun P Z=>zjI x locs 0 P0=some P/\zpn Z (L+2) P.2/\zQ Z (L+1) P.1/\Z.heap[L]?=some (.cells #[At0 b] 134 (0,0))/\Bw w Z,?_,?_⟩
 ·refine⟨Nat×(RelD×(Nat->UInt8)),fun s=>⟨[(2,At0 L),(5,At0 (L+1)),(6,At0 (L+2)),(17,i64 locs),(18,i64 (s.1:Nat))],[]⟩,fun s Z=>s.1<=locs/\zjI x (locs-s.1) s.1 s.2=zjI x locs 0 P0/\zG s.2.1.to/\zpn Z (L+2) s.2.2/\zQ Z (L+1) s.2.1/\Z.heap[L]?=some (.cells #[At0 b] 134 (0,0))/\Bw w Z/\L+3<=Z.heap.size,fun s=>locs-s.1,(0,P0),
   (cvE rfl rfl),⟨UP _,rfl,by rw[am];exact fun i _=>(by show 0<_;decide),by rw[am];exact fM,by rw[am];exact fT,z,aa,by omega⟩,?_⟩
  clear fM fT z sX aa;rintro⟨l,P⟩ Z ⟨hl,y,a4,fM,fT,z,d,sZ⟩;dsimp only at hl y a4 fM fT sZ ⊢;refine biE (fun hc=>?_) fun hc=>?_
  ·have hc:(l:Int)<(locs:Int):=dT hc;have bb:l<locs:=by omega
   have aj:zjI x (locs-l) l P=if(qo x l).headD 48=l then zjI x (locs-(l+1)) (l+1) (zaJ (qo x l) P.1,upd P.2 l (zge x.ev (qo x l))) else none:=by
    rw[show locs-l=(locs-(l+1))+1 by omega];rfl
   refine⟨_,zc (za z) (i:=0) rfl,_,zc (za (zb d fx)) (i:=0) rfl,?_⟩;obtain⟨f,a7⟩:∃f:Nat->Bool,f=fun i=>decide ((evA x i).k=2)&&decide ((evA x i).l.toNat=l):=⟨_,rfl⟩;refine⟨Nat×OA×Nat,fun s=>⟨[(2,At0 L),(5,At0 (L+1)),(6,At0 (L+2)),(7,i64 (l:Nat)),(8,.slice s.2.1 ((List.range s.1).filter f).length s.2.2),(17,i64 locs),(18,i64 (l:Nat)),(24,.slice q x.ev.length c),(25,i64 x.ev.length),(26,i64 (s.1:Nat))],[]⟩,fun s V=>s.1<=x.ev.length/\OwnS zB 3 Z.heap.size V s.2.1 s.2.2 ((List.range s.1).filter f)/\Bw Z V,fun s=>x.ev.length-s.1,(0,none,0),
    (cvE rfl rfl),⟨UP _,OwnS.nil,UR _ _⟩,?_⟩
   rintro⟨k,ps,cs⟩ V ⟨hk,oV,ad⟩;dsimp only at hk oV ⊢;have bd:=ad.size;refine biE (fun hc=>?_) fun hc=>?_
   ·have hc:(k:Int)<(x.ev.length:Int):=dT hc;have au:k<x.ev.length:=(by omega);have ab:=zst d ad;obtain⟨bq,oq,ar,hb,a3⟩:=zbF (hv.ev.below ab) au;rw[zdA] at a3;have aq:(List.range (k+1)).filter f=(List.range k).filter f++if f k=true then[k] else[]:=by
     rw[QL,Kq,Qe,List.filter_nil]
    have ac:f k=(decide ((evA x k).k=2)&&decide ((evA x k).l.toNat=l)):=(by rw[a7]);have b0:((List.range k).filter f).length<=k:=by
     have:=JH f (List.range k);rw[KN] at this;exact this
    obtain⟨e,he⟩:=nm (evA x k);rw[<- he] at a3 ac;have cc:some (Value.slice q x.ev.length c)=some (Value.slice (some ⟨bq,oq,none⟩) x.ev.length c):=(by rw[ar]);subst ar;refine⟨k,rfl,au,evE.enc e,rfl,a3,hb,zr (X:=V) (v := .agg (evE.enc e).toArray) k80 rfl rfl (Qa.2 fun u hu=>evE.one e u hu) fun U r fU sU=>?_⟩;have fU:U.heap[V.heap.size]?=some (.cells (evE.enc e).toArray 80 (0,0)):=fU;have oU:=oV.below r;have ae:=ad.trans (r.mono bd);have bn:=ae.size;have az:f k=false->(k+1<=x.ev.length/\OwnS zB 3 Z.heap.size U ps cs ((List.range (k+1)).filter f)/\Bw Z U):=fun h=>⟨au,by rw[aq,h];simpa using oU,ae⟩;have af:f k=false->((List.range (k+1)).filter f).length=((List.range k).filter f).length:=fun h=>by rw[aq,h];simp
    refine⟨u8 e.k,zc (za fU) (i:=1) rfl,biE (fun h1=>?_) fun h1=>?_⟩
    ·have h1:e.k=2:=qm.1 (dT h1);refine⟨u8 e.l,zc (za fU) (i:=2) rfl,(e.l.toNat:Int),qu _,biE (fun h2=>?_) fun h2=>?_⟩
     ·have h2:(e.l.toNat:Int)=(l:Int):=dT h2;have bj:f k=true:=(by rw[ac,Uh h1,Uh (by omega:e.l.toNat=l)];rfl);rw[Gd bj] at aq;refine⟨⟨by decide,by decide,rfl⟩,zB.enc k,rfl,?_⟩;have ao:Bw U (U.alloc (.cells (zB.enc k).toArray 3)):=zba _ _;have b4:=ao.size;unfold zcA jP;show SatR _ _;refine znf (oU.below ao) (qq zB k) (by omega) (by omega) fun p' c' S oS gS b2=>?_;rw[j7] at gS;rw[<- aq] at oS ⊢;exact nxI (by omega) ⟨(k+1,p',c'),(cvE rfl rfl),⟨au,oS,ae.trans ((ao.mono bn).trans (qB (oU.below ao) (by omega) (UN _) gS))⟩,zdc (by omega)⟩
     ·have h2:¬(e.l.toNat:Int)=(l:Int):=dF h2;have ah:f k=false:=(by rw[ac,QX (by omega:¬e.l.toNat=l),QY]);exact nxI (by omega) ⟨(k+1,ps,cs),⟨.cons rfl (.cons rfl (.cons rfl (.cons rfl (.cons (by show _=some (Value.slice ps ((List.range (k+1)).filter f).length cs);rw[af ah];rfl) (.cons rfl (.cons rfl (.cons rfl (.cons rfl (.cons rfl .nil))))))))),rfl⟩,az ah,zdc (by omega)⟩
    ·have h1:¬e.k=2:=fun e2=>(dF h1) (by rw[e2];rfl);have ah:f k=false:=(by rw[ac,QX h1];rfl);exact brF (nxI (by omega) ⟨(k+1,ps,cs),⟨.cons rfl (.cons rfl (.cons rfl (.cons rfl (.cons (by show _=some (Value.slice ps ((List.range (k+1)).filter f).length cs);rw[af ah];rfl) (.cons rfl (.cons rfl (.cons rfl (.cons rfl (.cons rfl .nil))))))))),rfl⟩,az ah,zdc (by omega)⟩)
   have hc:¬(k:Int)<(x.ev.length:Int):=dF hc;obtain rfl:k=x.ev.length:=by omega
   have bv:(List.range x.ev.length).filter f=zbI x l:=by rw[a7];rfl
   rw[bv] at oV ⊢;have bf:=hne l bb;have bt:1<=(zbI x l).length:=List.length_pos_iff.2 bf;have a5:(zbI x l).length<=20:=hv.w20 l;have bz:∃g,ps=some ⟨g,0,none⟩:=by
    rcases oV.inv with⟨_,_,h⟩ | ⟨g,b3,h,_⟩
    ·exact(bf h).elim
    ·exact⟨g,h⟩
   obtain⟨g,rfl⟩:=bz;have hg:=(zx oV rfl).1;have hg:Z.heap.size<=g:=hg;have ab:=zst d ad;have bi:=d.size;refine cmo (zgW oV (zb ab fx) (zb ad z) (hT.below ab) (by omega) hv.co (fun a ha=>by have:=znl ha;omega) a5 bt) ?_;rintro e U ⟨rfl,oU,gU⟩;have oU:OwnS zB 3 Z.heap.size U (some ⟨g,0,none⟩) cs (qo x l):=oU;have bk:(qo x l).length=(zbI x l).length:=zmj _;have r:Bw Z U:=ad.trans (zm gU bd hg);have ai:=d.trans (r.mono bi);have an:0<(qo x l).length:=by omega
   obtain⟨bq,oq,ar,bm,bh⟩:=oU.row.at an;have bu:bq=g/\oq=0:=by simpa using ar.symm
   obtain⟨rfl,rfl⟩:=bu;rw[<- bk];have hh:(qo x l).headD 48=(qo x l)[0]:=zmO an;refine⟨0,rfl,an,i64 (qo x l)[0],by have:=zc (bh 0 an) (i:=0) (v:=i64 (qo x l)[0]) rfl;exact this,biE (fun h=>?_) fun h=>?_⟩
   ·have h:(!decide (((qo x l)[0]:Int)=(l:Int)))=true:=h;have h:¬((qo x l)[0]:Int)=(l:Int):=(by simpa using h);rw[aj,Gc (by rw[hh];omega)] at y;refine⟨rb ?_,ai⟩;rw[a6,<- y]
   have h:(!decide (((qo x l)[0]:Int)=(l:Int)))=false:=h;have h:((qo x l)[0]:Int)=(l:Int):=by simpa using h
   rw[aj,Gd (by rw[hh];omega)] at y;have a8:=zb r fT;have bw:RelAt U (L+1) 0 76 [] [] P.1:=⟨rfl,by simpa using a8⟩;have ak:∀a∈qo x l,a<48:=fun a ha=>by have:=zln ha;omega
   have ca:=hlt fT;have b1:=hlt fM;refine cmo (zop bw a4 oU.row (fun a ha=>by cases ha;exact⟨bm,by show bq≠L+1;omega⟩) (by omega) ak) ?_;rintro e S ⟨rfl,bp,gS⟩;have ba:zQ S (L+1) (zaJ (qo x l) P.1):=by simpa using bp.cells
   have av:Bw w S:=ai.trans (zm gS ai.size (by omega));have bl:=(gS.block (L+2) (hlt (zb r fM)) (by simp)).trans (zb r fM);have a2:=(gS.block L (hlt (zb r z)) (by simp)).trans (zb r z);have oS:=qc oU a8 (by decide) gS;obtain⟨j,hj⟩:∃j,j+1=(qo x l).length:=⟨(qo x l).length-1,by omega⟩;have ag:j<(qo x l).length:=by omega
   obtain⟨b6,o6,bx,b5,bc⟩:=oS.row.at ag;have be:b6=bq/\o6=0:=by simpa using bx.symm
   obtain⟨rfl,rfl⟩:=be;obtain⟨t,ht⟩:∃t,(qo x l)[j]=t:=⟨_,rfl⟩;have a0:t<x.ev.length:=zln (by rw[<- ht];exact gM ag);have a1:(qo x l).getLastD 0=t:=by
    rw[List.getLastD_eq_getLast?,List.getLast?_eq_getElem?,show(qo x l).length-1=j by omega,gE ag,ht];rfl
   obtain⟨b7,o7,bo,b9,ax⟩:=zbF (hv.ev.below av) a0;rw[zdA] at ax;have br:zge x.ev (qo x l)=(evA x t).v:=by
    show(x.ev.getD ((qo x l).getLastD 0) ev0).v=_;rw[a1];rfl
   have dS:Bw S S.drew:=(UR _ _).drew;refine DrawE.ord [15] [0,1,2,3,4,5,6,7,8,9,10,11,12,13,14,15] (by kernel_rfl) ⟨_,zc (za (hdr a2)) (i:=0) rfl,_,zc (za (hdr (zb av fx))) (i:=0) rfl,(j:Nat),(zg (by omega)).trans (by omega),j,rfl,ag,i64 t,by have:=zc (zt dS (bc j ag)) (i:=0) (v:=i64 t) (by rw[ht];rfl);exact this,?_⟩;rw[bo];refine⟨t,rfl,a0,u8 (evA x t).v,by have:=zc (zt dS ax) (i:=3) (v:=u8 (evA x t).v) rfl;exact this,l,rfl,by omega,?_⟩;refine zn k5 (hdr bl) (o:=0+l*1) (v:=u8 (evA x t).v) rfl rfl (by rw[zy];omega) rfl fun T bg gT sT=>?_;have al:S.grownBy T (some (L+2)):=zf (zi dS) gT;have e8:=zcR (n:=6) (fun i=>u8 (P.2 i)) (fun i=>u8 (upd P.2 l (evA x t).v i)) (i:=l) (by omega) rfl (fun j hj=>by rw[zak _ _ hj]);rw[qM] at e8;rw[UO,UH,e8] at bg;exact nxI (by omega) ⟨(l+1,(zaJ (qo x l) P.1,upd P.2 l (evA x t).v)),(cvE rfl rfl),⟨bb,by rw[<- br];exact y,zhn a4 ak,bg,(al.block (L+1) (hlt ba) (by simp)).trans ba,(al.block L (hlt a2) (by simp)).trans a2,av.trans (zm al av.size (by omega)),by have:=al.size;have:=gS.size;have:=r.size;omega⟩,zdc (by omega)⟩
  ·have hc:¬(l:Int)<(locs:Int):=dF hc;obtain rfl:l=locs:=by omega
   rw[UE] at y;exact⟨P,(cvE rfl rfl),y.symm,fM,fT,z,d⟩
 rintro P Z ⟨y,fM,fT,z,d⟩;have ay:zbv x locs=(zbN P.1 x.co&&(List.range 6).all fun l=>decide (P.2 l=x.mem l)):=by rw[a6,y]
 refine DrawE.ord [] [0,1,2,3,4,5,6,7,8,9,10,11,12,13,14,15] (by kernel_rfl) ?_;have dZ:Bw Z Z.drew:=(UR _ _).drew;refine⟨zd P.1,ze _,za (hdr fT),hlt (hdr fT),_,zc (za (hdr z)) (i:=0) rfl,?_⟩;have aw:=hdr (zb d fx);refine⟨zd x.co,ze _,by have h:=zI (n:=99) (m:=49) (za aw);rw[show(exC x q c).toArray.toList=exC x q c from rfl,zsb] at h;exact h,hlt aw,_,fun w=>zlQ _ _ P.1 x.co w,?_⟩;have a9:Bw w Z.drew:=zst d dZ;refine biE (fun h=>?_) fun h=>?_
 ·have h:zbN P.1 x.co=true:=h;exact⟨seg 6 (fun i=>u8 (P.2 i)),zy _ _,za (hdr fM),hlt (hdr fM),_,zc (za (hdr z)) (i:=0) rfl,seg 6 (fun i=>u8 (x.mem i)),zy _ _,by have h:=zI (n:=327) (m:=6) (za aw);rw[show(exC x q c).toArray.toList=exC x q c from rfl,zqE] at h;exact h,hlt aw,_,fun w=>zoU _ _ P.2 x.mem w,rb (by rw[ay,h,Un]),a9⟩
 ·have h:zbN P.1 x.co=false:=h;exact⟨rb (by rw[ay,h,QZ]),a9⟩
end
section
variable{b c:Nat}{x:ExD}{q:OA}{w:Wd}
theorem zhR{X:Wd}{o:Nat}{A T:List Value}{r:RelD}(fx:ExH X b x q c)(hA:A.length=o)(hE:exC x q c=A++(zd r++T)){i:Nat}(hi:i<48):X.cell? ⟨b,o+1+i*1,none⟩=some (s64 (r.to i)):=by
 have a:RelAt X b o 78 A T r:=⟨hA,by rw[<- hE];exact fx⟩;exact a.cell hi
theorem zrO{X:Wd}(fx:ExH X b x q c){i:Nat}(hi:i<48):X.cell? ⟨b,0+1+1+i*1,none⟩=some (s64 (x.po.to i)):=by
 obtain⟨A,T,d,a⟩:=zlM x q c [];exact zhR fx d (by rw[<- a,QA]) hi
theorem zsg{X:Wd}(fx:ExH X b x q c){i:Nat}(hi:i<48):X.cell? ⟨b,0+148+1+i*1,none⟩=some (s64 (x.dt.to i)):=by
 obtain⟨A,T,d,a⟩:=zlN x q c [];exact zhR fx d (by rw[<- a,QA]) hi
theorem zsr{X:Wd}(fx:ExH X b x q c){i:Nat}(hi:i<48):X.cell? ⟨b,0+197+1+i*1,none⟩=some (s64 (x.ct.to i)):=by
 obtain⟨A,T,d,a⟩:=zlO x q c [];exact zhR fx d (by rw[<- a,QA]) hi
theorem zrJ{X:Wd}(fx:ExH X b x q c){i:Nat}(hi:i<48):X.cell? ⟨b,0+246+1+i*1,none⟩=some (s64 (x.rm.to i)):=by
 obtain⟨A,T,d,a⟩:=zlL x q c [];exact zhR fx d (by rw[<- a,QA]) hi
theorem n64{a b:Nat}(h:(!decide ((a:Int)=(b:Int)))=true):¬a=b:=fun e=>by
 rw[e] at h;simp at h
theorem y64{a b:Nat}(h:(!decide ((a:Int)=(b:Int)))=false):a=b:=by
 have h:(a:Int)=(b:Int):=by simpa using h
 exact Uo h
theorem n8{a d:UInt8}(h:(!decide ((a.toNat:Int)=(d.toNat:Int)))=true):¬a=d:=fun e=>by
 rw[e] at h;simp at h
theorem y8{a d:UInt8}(h:(!decide ((a.toNat:Int)=(d.toNat:Int)))=false):a=d:=qm.1 (by simpa using h)
def wrG (x:ExD) (k:Nat):Nat:=(List.range k).foldl (fun s i=>if(evA x i).k=2 then s|||2^i else s) 0
theorem ziB(x:ExD)(k:Nat):wrG x (k+1)=if(evA x k).k=2 then wrG x k|||2^k else wrG x k:=by
 unfold wrG;rw[QL,KL];rfl
theorem zhH(x:ExD):∀k,k<=64->wrG x k<2^64
 | 0,_=>by show 0<_;decide
 | k+1,h=>by
  rw[ziB]
  split
  ·exact KR (zhH x k (by omega)) (zT (by omega))
  ·exact zhH x k (by omega)
theorem zkQ(fx:ExH w b x q c)(hv:ExW w x q)(hrn:x.rm.n=x.ev.length)(hok:okR x.rm=true)(hT:Tz64M w) :
  CB 60 #[At0 b] w (.bool (zaK x)):=by
 refine qg 130 [At0 b] (.s .p (.s .p (.c .p .p))) Tryz.func60 ?_;have hn:=hv.n;obtain⟨W,hW⟩:=nm (znn x);have az:W=wrG x x.ev.length:=by rw[hW];rfl
 have ax:W<2^64:=by rw[az];exact zhH x _ (by omega)
 refine⟨Unit,fun _=>⟨[(0,At0 b),(3,s64 W),(4,s64 0)],[]⟩,fun _ X=>Bw w X,?_,?_⟩
 ·refine⟨_,zc (za fx) (i:=0) rfl,?_⟩;refine⟨Nat,fun k=>⟨[(0,At0 b),(3,s64 (wrG x k)),(4,s64 0),(17,.slice q x.ev.length c),(18,i64 x.ev.length),(19,i64 (k:Nat))],[]⟩,fun k X=>k<=x.ev.length/\Bw w X,fun k=>x.ev.length-k,0,
   (cvE rfl rfl),⟨UP _,UR _ _⟩,?_⟩
  rintro k X ⟨hk,o⟩;dsimp only;refine biE (fun hc=>?_) fun hc=>?_
  ·have hc:(k:Int)<(x.ev.length:Int):=dT hc;have m:k<x.ev.length:=by omega
   obtain⟨bq,oq,ap,hb,ab⟩:=zbF (hv.ev.below o) m;rw[zdA] at ab;obtain⟨e,he⟩:=nm (evA x k);have hs:=ziB x k;rw[<- he] at ab hs;subst ap;refine⟨k,rfl,m,evE.enc e,rfl,ab,hb,zr (X:=X) (v := .agg (evE.enc e).toArray) k80 rfl rfl (Qa.2 fun u hu=>evE.one e u hu) fun Y an fY sY=>?_⟩;have fY:Y.heap[X.heap.size]?=some (.cells (evE.enc e).toArray 80 (0,0)):=fY;have aa:=zst o an;refine⟨u8 e.k,zc (za fY) (i:=1) rfl,biE (fun h=>?_) fun h=>?_⟩
   ·have h:e.k=2:=qm.1 (dT h);rw[Gd h] at hs;exact⟨by omega,((2^k:Nat):Int),jn (e:=k) (by omega),((wrG x k|||2^k:Nat):Int),jB (zhH x k (by omega)) (zT (by omega)),nxI (by omega) ⟨k+1,⟨.cons rfl (.cons (by show _=some (s64 (wrG x (k+1)));rw[hs];rfl) (.cons rfl (.cons rfl (.cons rfl (.cons rfl .nil))))),rfl⟩,⟨m,aa⟩,zdc (by omega)⟩⟩
   ·have h:¬e.k=2:=fun e2=>(dF h) (by rw[e2];rfl);rw[Gc h] at hs;exact nxI (by omega) ⟨k+1,⟨.cons rfl (.cons (by show _=some (s64 (wrG x (k+1)));rw[hs];rfl) (.cons rfl (.cons rfl (.cons rfl (.cons rfl .nil))))),rfl⟩,⟨m,aa⟩,zdc (by omega)⟩
  ·have hc:¬(k:Int)<(x.ev.length:Int):=dF hc;obtain rfl:k=x.ev.length:=by omega
   exact⟨(),⟨.cons rfl (.cons (by show _=some (s64 W);rw[az];rfl) (.cons rfl .nil)),rfl⟩,o⟩
 rintro _ X o;refine⟨_,zc (za (zb o fx)) (i:=0) rfl,?_⟩;have ay:zaK x=zgx x W 0 x.ev 0:=by rw[hW];rfl
 refine⟨Nat×Nat,fun s=>⟨[(0,At0 b),(3,s64 W),(4,s64 s.2),(35,.slice q x.ev.length c),(36,i64 x.ev.length),(37,i64 (s.1:Nat))],[]⟩,fun s X=>s.1<=x.ev.length/\zgx x W s.1 (x.ev.drop s.1) s.2=zaK x/\s.2<2^64/\Bw w X,fun s=>x.ev.length-s.1,(0,0),
  (cvE rfl rfl),⟨UP _,ay.symm,by decide,o⟩,?_⟩
 clear o;rintro⟨k,h⟩ X ⟨hk,g,hh,o⟩;dsimp only at hk g hh ⊢;refine biE (fun hc=>?_) fun hc=>?_
 ·have hc:(k:Int)<(x.ev.length:Int):=dT hc;have m:k<x.ev.length:=by omega
  have j:k<48:=by omega
  obtain⟨bq,oq,ap,hb,ab⟩:=zbF (hv.ev.below o) m;rw[zdA] at ab;obtain⟨e,he⟩:=nm (evA x k);rw[<- he] at ab;have aw:x.ev.drop k=e::x.ev.drop (k+1):=by
   rw[<- JA m,he];unfold evA;rw[gDe,gE m];rfl
  rw[aw] at g;unfold zgx at g;obtain⟨d,hd⟩:=nm (x.dt.to k);obtain⟨t,ht⟩:=nm (x.ct.to k);obtain⟨r,hr⟩:=nm (x.rm.to k);obtain⟨po,ak⟩:=nm (x.po.to k);dsimp only at g;rw[<- hd,<- ht,<- hr,<- ak] at g;have af:d<2^64:=by rw[hd];exact hv.dt k j
  have am:t<2^64:=by rw[ht];exact hv.ct k j
  have y:r<2^64:=by rw[hr];exact hv.rm k j
  have a4:po<2^64:=by rw[ak];exact hv.po k j
  have ag:=KR af am;have ao:=KR ag y;have aq:=KR af y;subst ap;refine⟨k,rfl,m,evE.enc e,rfl,ab,hb,zr (X:=X) (v := .agg (evE.enc e).toArray) k80 rfl rfl (Qa.2 fun u hu=>evE.one e u hu) fun Y an fY sY=>?_⟩;have fY:Y.heap[X.heap.size]?=some (.cells (evE.enc e).toArray 80 (0,0)):=fY;have aa:=zst o an;have dY:Bw Y Y.drew:=(UR _ _).drew;have ai:=hdr (zb aa fx);have av:=hdr fY;have ad:=zst aa dY;have no:∀{Z:Wd},Bw w Z->zaK x=false->(Ending.returned (.bool false)=Ending.returned (.bool (zaK x))/\Bw w Z):=fun{Z} hb h=>⟨rb h.symm,hb⟩;refine DrawE.ord [] [0,1,2,3,4,5,6,7,8,9,10,11,12,13,14,15,16,17,18,19,20,21,22,23] (by kernel_rfl) ⟨k,rfl,j,s64 d,by rw[hd];exact zsg ai j,?_⟩;refine⟨k,rfl,j,s64 t,by rw[ht];exact zsr ai j,?_⟩;refine⟨k,rfl,j,s64 r,by rw[hr];exact zrJ ai j,?_⟩;refine⟨_,jB af am,_,jB ag y,biE (fun h1=>?_) fun h1=>?_⟩
  ·have h1:d|||t|||r=0:=Uo (dT h1);rw[Gd h1] at g;exact nxI (by omega) ⟨(k+1,h),(cvE rfl rfl),⟨m,g,hh,ad⟩,zdc (by omega)⟩
  have h1:¬d|||t|||r=0:=fun e2=>(dF h1) (by rw[e2];rfl);rw[Gc h1] at g;refine⟨u8 e.k,zc (za av) (i:=1) rfl,biE (fun h2=>?_) fun h2=>?_⟩
  ·have h2:¬e.k=1:=n8 (d:=1) h2;rw[Gc fun h=>h2 h.1] at g;exact brT (brT (no ad g.symm))
  have h2:e.k=1:=y8 (d:=1) h2;refine⟨_,jB af y,_,zbK aq ax,biE (fun h3=>?_) fun h3=>?_⟩
  ·have h3:¬jl (d|||r) W=0:=n64 (b:=0) h3;rw[Gc fun h=>h3 h.2.1] at g;exact brT (no ad g.symm)
  have h3:jl (d|||r) W=0:=y64 (b:=0) h3;refine⟨_,jB af am,_,jB ag y,k,rfl,j,s64 po,by rw[ak];exact zrO ai j,?_⟩;refine⟨_,zbK ao a4,biE (fun h4=>?_) fun h4=>?_⟩
  ·have h4:¬jl (d|||t|||r) po=0:=n64 (b:=0) h4;rw[Gc fun h=>h4 h.2.2] at g;exact no ad g.symm
  have h4:jl (d|||t|||r) po=0:=y64 (b:=0) h4;rw[Gd ⟨h2,h3,h4⟩] at g;refine cmo (zas y (hT.below ad)) ?_;rintro e2 Z ⟨rfl,a0⟩;have aj:=zst ad a0;by_cases ae:r=0
  ·have e1:(els r).isEmpty=true:=by rw[ae];rfl
   rw[e1];rw[Gd ae] at g;exact brF (nxI (by omega) ⟨(k+1,h),(cvE rfl rfl),⟨m,g,hh,aj⟩,zdc (by omega)⟩)
  rw[Gc ae] at g;obtain⟨a2,a3⟩:=zbf ae y;rw[a2,a3];have ar:=zlW ae y;have au:r.testBit (ctz r)=true:=(zh5.1 ar).2;have al:ctz r<x.ev.length:=by
   have:=(zly hok hv.rm j (by rw[<- hr];exact au)).1;rw[hrn] at this;omega
  obtain⟨v,a1⟩:=nm (ctz r);rw[<- a1] at al g ⊢;refine brT ?_;have fZ:=zb a0 av;have dZ:Bw Z Z.drew:=(UR _ _).drew;have z:=zst aj dZ;refine DrawE.ord [] [0,1,2,3,4,5,6,7,8,9,10,11,12,13,14,15,16,17,18,19,20,21,22,23] (by kernel_rfl) ⟨by omega,((2^v:Nat):Int),jn (e:=v) (by omega),biE (fun h5=>?_) fun h5=>?_⟩
  ·have h5:¬r=2^v:=n64 h5;rw[Gc fun h=>h5 h.1] at g;exact brT (brT (no z g.symm))
  have h5:r=2^v:=y64 h5;refine⟨by omega,_,zfl (a:=h) (k:=v) (by omega),_,jo (a:=h/2^v) (b:=1) (Kz (Nat.div_le_self _ _) hh) (by decide),?_⟩;rw[zir]
  cases hb5:h.testBit v with
  | true =>
   rw[Gc fun h=>(by rw[hb5] at h;cases h.2.1)] at g;exact brT (brT (no z g.symm))
  | false =>
   refine brF ?_;obtain⟨a5,a7,ah,a6,ac⟩:=zbF (hv.ev.below z) al;rw[zdA] at ac;obtain⟨f,hf⟩:=nm (evA x v);rw[<- hf] at ac g;refine⟨_,zc (za (zb z fx)) (i:=0) rfl,v,rfl,al,?_⟩;simp only[KS,Uj,UX] at ah;rw[<- ah.1,<- ah.2] at ac;refine⟨u8 f.l,by have:=zc ac (i:=2) (v:=u8 f.l) rfl;exact this,u8 e.l,zc (za (hdr fZ)) (i:=2) rfl,biE (fun h6=>?_) fun h6=>?_⟩
   ·have h6:¬f.l=e.l:=n8 h6;rw[Gc fun h=>h6 h.2.2] at g;exact no z g.symm
   have h6:f.l=e.l:=y8 h6;rw[Gd ⟨h5,hb5,h6⟩] at g;exact⟨_,jB hh y,nxI (by omega) ⟨(k+1,h|||r),(cvE rfl rfl),⟨m,g,KR hh y,z⟩,zdc (by omega)⟩⟩
 ·have hc:¬(k:Int)<(x.ev.length:Int):=dF hc;obtain rfl:k=x.ev.length:=by omega
  rw[Qd] at g;exact⟨rb g,o⟩
end
theorem zjv{locs:Nat}:∀(ev:List Ev) (i:Nat) (t:Int) (n:Nat),zjw locs i ev t n=true->∀j,i+j<locs->j<ev.length->∃v,ev.getD j ev0=⟨-1,2,UInt8.ofNat (i+j),v,0,0,0⟩
 | [],_,_,_,_,_,_,h=>by simp at h
 | e::ev,i,t,n,h,j,hj,hl=>by
  unfold zjw at h;rw[Gd (by omega:i<locs)] at h;by_cases a:e=⟨-1,2,UInt8.ofNat i,e.v,0,0,0⟩
  ·rw[Gd a] at h
   cases j with
   | zero=>exact⟨e.v,by rw [UB];exact a⟩
   | succ j =>
    obtain⟨v,b⟩:=zjv ev (i+1) t n h j (by omega) (by simpa using hl);exact⟨v,by rw[show i+(j+1)=i+1+j by omega];exact b⟩
  ·rw[Gc a] at h;cases h
theorem zoC(ev:List Ev):zab ev<=ev.length:=by
 unfold zab
 induction ev with
 | nil=>exact UN _
 | cons e ev ih =>
  rw[Ki]
  split
  ·rw[Qj,Qj];omega
  ·exact UP _
theorem znk{x:ExD}{locs:Nat}(h:ju x.ev locs=true)(hl:locs<=x.ev.length)(h6:locs<=6):∀l,l<locs->zbI x l≠[]:=by
 intro l e a;obtain⟨v,d⟩:=zjv x.ev 0 0 0 h l (by omega) (by omega);have:l∈zbI x l:=by
  unfold zbI;rw[QI,Ue];refine⟨by omega,?_⟩;have b:evA x l=⟨-1,2,UInt8.ofNat (0+l),v,0,0,0⟩:=d;rw[b,bAT,dE,dE];refine⟨rfl,?_⟩;show(UInt8.ofNat (0+l)).toNat=l;rw[UH,KB];exact Qt (by omega)
 rw[a] at this
 cases this
abbrev zch (x:ExD):List RelD:=[x.po,x.rf,x.co,x.dt,x.ct,x.rm]
theorem zqD(x:ExD)(q:OA)(c:Nat){i:Nat}(hi:i<6):((exC x q c).drop (1+49*i)).take 49=zd ((zch x).getD i x.po):=by
 have g:∀{A T:List Value} {o:Nat} {r:RelD},A.length=o->exC x q c=A++(zd r++T)->((exC x q c).drop o).take 49=zd r:=fun{A T o r} b a=>by
  rw[a,<- b,Ub,Je (by rw[ze];decide),JB (by rw[ze];decide)]
 match i,hi with
 | 0,_=>obtain⟨A,T,b,a⟩:=zlM x q c [];exact g b (by rw [<- a,QA];rfl)
 | 1,_=>obtain⟨A,T,b,a⟩:=zrt x q c [];exact g b (by rw [<- a,QA];rfl)
 | 2,_=>obtain⟨A,T,b,a⟩:=zrv x q c [];exact g b (by rw [<- a,QA];rfl)
 | 3,_=>obtain⟨A,T,b,a⟩:=zlN x q c [];exact g b (by rw [<- a,QA];rfl)
 | 4,_=>obtain⟨A,T,b,a⟩:=zlO x q c [];exact g b (by rw [<- a,QA];rfl)
 | 5,_=>obtain⟨A,T,b,a⟩:=zlL x q c [];exact g b (by rw [<- a,QA];rfl)
theorem zpY(L:Nat){k:Nat}(hk:k<6):((List.range 6).map (fun i=>Value.pointer (some ⟨L,0+(1+49*i),none⟩)))[k]?=some (.pointer (some ⟨L,0+(1+49*k),none⟩)):=by
 rw[KM,Kc hk];rfl
def okX (x:ExD) (r:RelD):Bool:=decide (r.n=x.ev.length)&&okR r
section
variable{c:Nat}{x:ExD}{q:OA}{w:Wd}
theorem zev{X:Wd}{b:Nat}(fx:ExH X b x q c){i:Nat}(hi:i<6):zF X ⟨b,0+(1+49*i),none⟩ (zd ((zch x).getD i x.po)):=by
 have h:=zI (n:=1+49*i) (m:=49) (za fx);rw[show(exC x q c).toArray.toList=exC x q c from rfl,zqD x q c hi] at h;exact h
theorem ExW.rel(hv:ExW w x q){i:Nat}(hi:i<6):zG ((zch x).getD i x.po).to:=by
 match i,hi with
 | 0,_=>exact hv.po
 | 1,_=>exact hv.rf
 | 2,_=>exact hv.co
 | 3,_=>exact hv.dt
 | 4,_=>exact hv.ct
 | 5,_=>exact hv.rm
theorem zpl(hv:ExW w x q)(hT:Tz64M w):CB 23 #[.agg (exC x q c).toArray] w (.bool (zao x)):=by
 refine qg 70 [.agg (exC x q c).toArray] (.c .p (.c .p (.c .p (.c .p (.c .p .p))))) Tryz.func23 ?_;obtain⟨L,hL⟩:=nm (w.heap.size);have hn:=hv.n;refine⟨Unit,fun _=>⟨[(1,At0 L)],[]⟩,fun _ X=>ExH X L x q c/\Bw w X,⟨(),⟨.cons (by rw[hL];rfl) .nil,rfl⟩,by rw[hL];exact zw w _,(zba w _)⟩,?_⟩;rintro _ X ⟨fx,ae⟩;obtain⟨n,u⟩:=nm (zab x.ev);refine⟨Unit,fun _=>⟨[(1,At0 L)],[]⟩,fun _ Y=>X=Y,?_,?_⟩
 ·refine⟨_,zc (za fx) (i:=0) rfl,biE (fun h=>?_) fun _=>?_⟩
  ·have h:(48:Int)<(x.ev.length:Nat):=dT h;omega
  exact⟨(),(cvE rfl rfl),rfl⟩
 rintro _ _ rfl;refine⟨Unit,fun _=>⟨[(1,At0 L),(3,i64 (n:Nat))],[]⟩,fun _ Y=>Bw X Y,?_,?_⟩
 ·refine⟨_,zc (za fx) (i:=0) rfl,cmo (zkJ (hv.below ae).ev (by omega)) ?_⟩;rintro e Y ⟨rfl,aa⟩;rw[<- u];exact⟨(),(cvE rfl rfl),aa⟩
 rintro _ Y aa;have ar:=hv.below ae;have aw:n<=x.ev.length:=by rw[u];exact zoC _
 have s:=zst ae aa;have ax:decide (x.ev.length<=48)=true:=Uh (by omega);have no:∀{Z:Wd},Bw w Z->zao x=false->(Ending.returned (.bool false)=Ending.returned (.bool (zao x))/\Bw w Z):=fun{Z} hb h=>⟨rb h.symm,hb⟩;refine⟨Unit,fun _=>⟨[(1,At0 L),(3,i64 (n:Nat))],[]⟩,fun _ Z=>ju x.ev n=true/\(1<=n/\n<=6)/\ExH Z L x q c/\Bw w Z,?_,?_⟩
 ·refine biE (fun h1=>?_) fun h1=>?_
  ·have h1:(n:Int)<1:=dT h1;refine brT (brT (no s ?_));unfold zao;rw[<- u,QX (by omega:¬1<=n),QZ,QY]
  have h1:¬(n:Int)<1:=dF h1;refine biE (fun h2=>?_) fun h2=>?_
  ·have h2:(6:Int)<(n:Int):=dT h2;refine brT (no s ?_);unfold zao;rw[<- u,QX (by omega:¬n<=6),QZ,QY,QY]
  have h2:¬(6:Int)<(n:Int):=dF h2;have an:decide (1<=n)=true:=Uh (by omega);have ap:decide (n<=6)=true:=Uh (by omega);have fY:=zb aa fx;refine⟨_,zc (za fY) (i:=0) rfl,cmo (zgV (locs:=n) (ar.below aa).ev (by omega) (by omega)) ?_⟩;rintro e Z ⟨rfl,au⟩;have d:=zst s au;refine biE (fun t=>?_) fun t=>?_
  ·have t:ju x.ev n=false:=by
    have t:(!ju x.ev n)=true:=t;simpa using t
   refine no d ?_;unfold zao;rw[<- u,t,QZ,QY,QY,QY]
  have t:ju x.ev n=true:=by
   have t:(!ju x.ev n)=false:=t;simpa using t
  exact⟨(),(cvE rfl rfl),t,by omega,zb au fY,d⟩
 rintro _ Z ⟨t,⟨h1,h2⟩,fZ,d⟩;clear fx ae aa s ar;have an:decide (1<=n)=true:=Uh h1;have ap:decide (n<=6)=true:=Uh h2;have a:zao x=(za0 x&&(zbN x.po (poR x.ev)&&(zbo x&&(zbv x n&&zaK x)))):=by
  unfold zao;rw[<- u,ax,an,ap,t];rfl
 have ab:za0 x=(zch x).all (okX x):=rfl;refine⟨Unit,fun _=>⟨[(1,At0 L),(3,i64 (n:Nat))],[]⟩,fun _ U=>za0 x=true/\ExH U L x q c/\Bw w U,?_,?_⟩
 ·refine⟨⟨by decide,by decide,rfl⟩,(List.range 6).map (fun i=>Value.pointer (some ⟨L,0+(1+49*i),none⟩)),rfl,?_⟩;obtain⟨g,hg⟩:=nm (Z.heap.size);refine⟨Nat,fun k=>⟨[(1,At0 L),(3,i64 (n:Nat)),(32,.slice (some ⟨g,0,none⟩) 6 6),(33,i64 6),(34,i64 (k:Nat))],[]⟩,fun k U=>k<=6/\((zch x).take k).all (okX x)=true/\U.heap[g]?=some (.cells ((List.range 6).map (fun i=>Value.pointer (some ⟨L,0+(1+49*i),none⟩))).toArray 129 (0,0))/\ExH U L x q c/\Bw w U,fun k=>6-k,0,
   ⟨.cons rfl (.cons rfl (.cons (by rw[hg];rfl) (.cons rfl (.cons rfl .nil)))),rfl⟩,⟨UP _,rfl,by rw[hg];exact zw Z _,z6 _ fZ,d.alloc d.size _⟩,?_⟩
  clear hg fZ d;rintro k U ⟨hk,m,fg,fU,o⟩;dsimp only;refine biE (fun hc=>?_) fun hc=>?_
  ·have hc:(k:Int)<6:=dT hc;have z:k<6:=by omega
   obtain⟨r,hr⟩:=nm ((zch x).getD k x.po);have af:k<(zch x).length:=z;have ay:(zch x).take (k+1)=(zch x).take k++[r]:=by
    rw[tsg af,hr,gDe,gE af];rfl
   have av:zG r.to:=by rw[hr];exact hv.rel z
   have ai:zF U ⟨L,0+(1+49*k),none⟩ (zd r):=by rw[hr];exact zev fU z
   have dU:Bw U U.drew:=(UR _ _).drew;have ag:r∈zch x:=by
    rw[hr,gDe,gE af];exact gM af
   have am:∀{Z:Wd},Bw w Z->okX x r=false->(Ending.returned (.bool false)=Ending.returned (.bool (zao x))/\Bw w Z):=fun{Z} hb h=>no hb (by
    have:za0 x=false:=by
     rw[ab,KF];exact⟨r,ag,by rw[h];decide⟩
    rw[a,this];rfl)
   refine⟨k,rfl,z,?_⟩;refine⟨.pointer (some ⟨L,0+(1+49*k),none⟩),by
    have:=zc (za fg) (i:=k*1) (v := .pointer (some ⟨L,0+(1+49*k),none⟩)) (by
     rw[UO];exact zpY L z)
    exact this,?_⟩
   refine DrawE.ord [] [0,1,2,3,4,5,6,7,8,9,10,11,12,13,14] (by kernel_rfl) ⟨i64 r.n,zc (zt dU ai) (i:=0) rfl,_,zc (za (hdr fU)) (i:=0) rfl,biE (fun l=>?_) fun l=>?_⟩
   ·have l:(!decide (r.n=(x.ev.length:Int)))=true:=l;have l:¬r.n=(x.ev.length:Int):=(by simpa using l);exact brT (am ((zst o dU)) (by unfold okX;rw[QX l];rfl))
   have l:(!decide (r.n=(x.ev.length:Int)))=false:=l;have l:r.n=(x.ev.length:Int):=by simpa using l
   refine⟨zd r,ze _,zt dU ai,hlt (hdr fU),cmo (jk av) ?_⟩;rintro e V ⟨rfl,f⟩;refine⟨f,?_⟩;have b:=o.trans ((dU.trans f).mono o.size);refine biE (fun j=>?_) fun j=>?_
   ·have j:okR r=false:=by
     have j:(!okR r)=true:=j;simpa using j
    exact am b (by unfold okX;rw[j,QY])
   have j:okR r=true:=by
    have j:(!okR r)=false:=j;simpa using j
   refine nxI (by omega) ⟨k+1,(cvE rfl rfl),⟨z,?_,zb (dU.trans f) fg,zb (dU.trans f) fU,b⟩,zdc (by omega)⟩;rw[ay,Qz,m];show(true&&(okX x r&&true))=true;unfold okX;rw[Uh l,j];rfl
  ·have hc:¬(k:Int)<6:=dF hc;obtain rfl:k=6:=by omega
   exact⟨(),(cvE rfl rfl),m,fU,o⟩
 rintro _ U ⟨aj,fU,o⟩;rw[aj,Un] at a;have m:∀r∈zch x,r.n=x.ev.length/\okR r=true:=fun r hr=>by
  rw[ab,Qa] at aj;have:=aj r hr;unfold okX at this;rw[bAT,dE] at this;exact this
 have aq:=m x.rf (by simp);have ag:=m x.rm (by simp);have az:=hv.below o;have dU:Bw U U.drew:=(UR _ _).drew;have ao:=az.below dU;have a0:=zst o dU;refine DrawE.ord [] [0,1,2,3,4,5,6,7,8,9,10,11,12,13,14,15,16] (by kernel_rfl) ⟨zd x.po,ze _,zev (hdr fU) (i:=0) (by decide),hlt (hdr fU),_,zc (za (hdr fU)) (i:=0) rfl,cmo (zcx ao.ev (by omega)) ?_⟩;rintro e V ⟨rfl,f⟩;refine⟨f,?_⟩;have b:=zst a0 f;have fV:=zb f (hdr fU);have ak:=ao.below f;refine⟨_,fun w=>zlQ _ _ x.po (poR x.ev) w,biE (fun l=>?_) fun l=>?_⟩
 ·have l:zbN x.po (poR x.ev)=true:=l;rw[l,Un] at a;refine cmo (zms fV ak aq.1 aq.2 (hT.below b)) ?_;rintro e T ⟨rfl,y⟩;refine⟨y,?_⟩;have ac:=zst b y;refine biE (fun j=>?_) fun j=>?_
  ·have j:zbo x=true:=j;rw[j,Un] at a;refine cmo (zm3 (locs:=n) (zb y fV) (ak.below y) (by omega) (znk t aw (by omega)) (hT.below ac)) ?_;rintro e R ⟨rfl,ah⟩;refine⟨ah,?_⟩;have ad:=zst ac ah;refine biE (fun h6=>?_) fun h6=>?_
   ·have h6:zbv x n=true:=h6;rw[h6,Un] at a;refine cmo (zkQ (zb ah (zb y fV)) ((ak.below y).below ah) ag.1 ag.2 (hT.below ad)) ?_;rintro e Q ⟨rfl,al⟩;exact⟨al,rb a.symm,(zst ad al)⟩
   ·have h6:zbv x n=false:=h6;rw[h6,QZ] at a;exact⟨rb a.symm,ad⟩
  ·have j:zbo x=false:=j;rw[j,QZ] at a;exact brF ⟨rb a.symm,ac⟩
 ·have l:zbN x.po (poR x.ev)=false:=l;rw[l,QZ] at a;exact brF (brF ⟨rb a.symm,b⟩)
end
section
variable{b c:Nat}{x:ExD}{q:OA}
theorem j8{X:Wd}(fx:zF X ⟨b,0,none⟩ (exC x q c)):X.cell? ⟨b,0+0,none⟩=some (.slice q x.ev.length c):=zc fx (i:=0) rfl
end
section
variable{b c:Nat}{x:ExD}{q:OA}
theorem q6{X:Wd}(fx:ExH X b x q c){i:Nat}(hi:i<6){o:Nat}(ho:o=1+49*i):zF X ⟨b,0+o,none⟩ (zd ((zch x).getD i x.po)):=by
 rw[ho];exact zev fx hi
end
def zmS (x:ExD):Bool:=decide (x.ev.length<=20)&&(zfx x.po&&(zfx x.rf&&(zfx x.co&&(zfx x.dt&&(zfx x.ct&&zfx x.rm)))))
section
variable{r:RelD}{w:Wd}
theorem zqp{b s:Nat}(f:w.heap[b]?=some (.cells (zd r).toArray 76 (0,0)))(hr:zG r.to)(hs:s<2^64)(h48:∀i∈els s,i<48)(hT:Tz64M w) :
  CB 211 #[At0 b,s64 s] w (s64 (zeI r.to s)):=by
 refine zC 32 [At0 b,s64 s] Tryz.func211 ?_;refine cmo (zas hs hT) ?_;rintro e X ⟨rfl,c⟩;refine⟨Nat×Nat,fun q=>⟨[(0,At0 b),(1,s64 q.2),(5,s64 q.1),(6,i64 ((els q.2).headD 0:Nat)),(7,.bool (!(els q.2).isEmpty))],[]⟩,
  fun q Y=>zeI r.to s=(els q.2).foldl (fun t a=>t|||r.to a) q.1/\(q.1<2^64/\q.2<2^64/\∀i∈els q.2,i<48)/\Bw w Y,fun q=>q.2,(0,s),
  (cvE rfl rfl),⟨rfl,⟨(by decide:0<2^64),hs,h48⟩,c⟩,?_⟩
 clear c X;rintro⟨t,q⟩ X ⟨k,⟨l,g,h48⟩,c⟩;dsimp only at k l g h48 ⊢;refine biE (fun h=>?_) fun h=>?_
 ·have n:=zef g h;obtain⟨j,u,_,x⟩:=jg n g;have o:=(zbf n g).1;have d:ctz q<48:=h48 _ (by rw[j];exact Ku);rw[o];have p:=zb c f;refine⟨ctz q,rfl,d,_,j6 p d,_,jB l (hr _ d),((q-1:Nat):Int),(w64 (a:=(q:Int)-1) (by omega)).trans (by omega),((qA q:Nat):Int),jo (a:=q) (b:=q-1) g (by omega),cmo (zas (s:=qA q) (by omega) (hT.below c)) ?_⟩;rintro e Y ⟨rfl,m⟩;refine⟨(t|||r.to (ctz q),qA q),(cvE rfl rfl),⟨?_,⟨KR l (hr _ d),by omega,fun i v=>h48 i (by rw[j];exact JR _ v)⟩,(zst c m)⟩,u⟩;rw[k,j];rfl
 ·have h:(els q).isEmpty=true:=by simpa using h
  have:=zft g h;subst this;refine⟨?_,c⟩;rw[k,zbg];rfl
theorem zeQ{ra rb:RelD}{ba bb g:Nat}{caps:Array Value}{row:Nat->Nat}(fa:w.heap[ba]?=some (.cells (zd ra).toArray 76 (0,0)))(fb:w.heap[bb]?=some (.cells (zd rb).toArray 76 (0,0)))
  (ha:zG ra.to) (hb:zG rb.to) (hok:jh (sg 0) g=true)
  (zck:ra.n=rb.n->okR ra=true->okR rb=true->∀i X,i<ra.n.toNat->Bw w X->Calls PG g (i64 (i:Nat)::caps.toList).toArray X fun e Y=>e = .returned (s64 (row i))/\Bw X Y) :
  CB 209 #[At0 ba,At0 bb,.func (.func g) #[] caps] w (.tuple #[.agg (zd (zc5 ra rb row).1).toArray,i64 (zc5 ra rb row).2]):=by
 refine qg 38 [At0 ba,At0 bb,.func (.func g) #[] caps] (.c .p (.s .p .p)) Tryz.func209 ?_;obtain⟨L,hL⟩:=nm (w.heap.size);refine⟨Unit,fun _=>⟨[(0,At0 ba),(1,At0 bb),(2,.func (.func g) #[] caps),(6,At0 L)],[]⟩,fun _ X=>X.heap[L]?=some (.cells (zd zz).toArray 76 (0,0))/\Bw w X,⟨(),⟨.cons rfl (.cons rfl (.cons rfl (.cons (by rw[hL];rfl) .nil))),rfl⟩,by rw[hL];exact zw w _,(zba w _)⟩,?_⟩;rintro _ X ⟨f0,ab⟩;have hd:Bw X X.drew:=(UR _ X).drew;have l:=zst ab hd;have no:∀{Y:Wd},Y.heap[L]?=some (.cells (zd zz).toArray 76 (0,0))->Bw w Y->(ra.n=rb.n&&(okR ra&&okR rb))=false->∀{K:Wd->Prop},(∀Z,Z.heap[L]?=some (.cells (zd (zc5 ra rb row).1).toArray 76 (0,0))->(zc5 ra rb row).2=2->Bw w Z->K Z)->SatR ((storeVar 76 ⟨L,0,none⟩ (.agg (zd zz).toArray)).run PG Y) fun _ w'=>K w' :=
  fun{Y} f b h {K} k=>by
   have e:zc5 ra rb row=(zz,2):=by unfold zc5;rw[h];rfl
   exact zo (v := .agg (zd zz).toArray) k76 f rfl rfl (zD _) (k _ (by rw[e];exact zk f) (by rw[e]) (zh b (by omega) _))
 refine DrawE.ord [] [0,1,2,3,4,5,6,7,8,9,10,11,12,13,14,15,16,17,18,19,20,21,22] (by kernel_rfl) ?_;have hz:∀{Y:Wd},Bw w Y->∀{K:Value->Prop},K (.agg (zd zz).toArray)->K (.agg (zd zz).toArray):=fun _ _ h=>h;refine⟨_,zc (za (zb l fa)) (i:=0) rfl,_,zc (za (zb l fb)) (i:=0) rfl,biE (fun h=>?_) fun h=>?_⟩
 ·have h:ra.n≠rb.n:=fun e=>by
   have h:(!decide (ra.n=rb.n))=true:=h;rw[Uh e] at h;cases h
  refine brT (brT ⟨zd zz,rfl,no (hdr f0) l (by rw[QX h];rfl) fun Z x u bZ=>⟨zd (zc5 ra rb row).1,ze _,za x,?_,bZ⟩⟩);rw[u];rfl
 have h:ra.n=rb.n:=by
  have h:(!decide (ra.n=rb.n))=false:=h;simpa using h
 refine⟨zd ra,ze _,za (zb l fa),hlt (zb l fa),cmo (jk ha) ?_⟩;rintro e Y ⟨rfl,t⟩;refine⟨t,?_⟩;have a:=zst l t;have y:=zb t (hdr f0);refine biE (fun j=>?_) fun j=>?_
 ·have j:okR ra=false:=by
   have j:(!okR ra)=true:=j;simpa using j
  refine brT ⟨zd zz,rfl,no y a (by rw[j,QZ,QY]) fun Z x u bZ=>⟨zd (zc5 ra rb row).1,ze _,za x,?_,bZ⟩⟩;rw[u];rfl
 have j:okR ra=true:=by
  have j:(!okR ra)=false:=j;simpa using j
 refine⟨zd rb,ze _,za (zb a fb),hlt (zb a fb),cmo (jk hb) ?_⟩;rintro e V ⟨rfl,q⟩;refine⟨q,?_⟩;have d:=zst a q;have z:=zb q y;refine biE (fun m=>?_) fun m=>?_
 ·have m:okR rb=false:=by
   have m:(!okR rb)=true:=m;simpa using m
  refine⟨zd zz,rfl,no z d (by rw[m,QY,QY]) fun Z x u bZ=>⟨zd (zc5 ra rb row).1,ze _,za x,?_,bZ⟩⟩;rw[u];rfl
 have m:okR rb=true:=by
  have m:(!okR rb)=false:=m;simpa using m
 obtain⟨p0,ac,_⟩:=qJ j;have e:zc5 ra rb row=(jW ra.n.toNat row,0):=by unfold zc5;rw[j,m,Uh h];rfl
 rw[e];have hn:ra.n=(ra.n.toNat:Int):=by omega
 refine⟨i64 (ra.n.toNat:Nat),by rw[<- hn];exact zc (za (zb d fa)) (i:=0) rfl,cmo (zio (w:=V) (n:=ra.n.toNat) (by omega) hok (fun i Z hi o=>zck h j m i Z hi ((zst d o)))) ?_⟩;rintro e Z ⟨rfl,o⟩;have aa:=zb o z;exact zo (v := .agg (zd (jW ra.n.toNat row)).toArray) k76 aa rfl rfl (zD _) ⟨zd (jW ra.n.toNat row),ze _,za (zk aa),rfl,zh ((zst d o)) (by omega) _⟩
end
section
variable{ra rb:RelD}{w:Wd}
theorem zpi{ba bb i:Nat}(fa:w.heap[ba]?=some (.cells (zd ra).toArray 76 (0,0)))(fb:w.heap[bb]?=some (.cells (zd rb).toArray 76 (0,0)))(ha:zG ra.to)(hb:zG rb.to)(hi:i<48) :
  CB 279 (i64 (i:Nat)::[At0 ba,At0 bb]).toArray w (s64 (ra.to i|||rb.to i)):=by
 refine zC 14 (i64 (i:Nat)::[At0 ba,At0 bb]) Tryz.func279 ?_;refine DrawE.ord [] [0,1,2,3,4,5,6,7,8,9] (by kernel_rfl) ?_;have a:Bw w w.drew:=(UR _ w).drew;exact⟨i,rfl,hi,_,j6 (hdr fa) hi,i,rfl,hi,_,j6 (hdr fb) hi,_,jB (ha i hi) (hb i hi),rfl,a⟩
theorem zq8(ha:zG ra.to)(hb:zG rb.to):CB 208 #[.agg (zd ra).toArray,.agg (zd rb).toArray] w (.tuple #[.agg (zd (zco ra rb).1).toArray,i64 (zco ra rb).2]):=by
 refine qg 10 [.agg (zd ra).toArray,.agg (zd rb).toArray] (.c .p .p) Tryz.func208 ?_;obtain⟨L,b⟩:=nm (w.heap.size);refine⟨Unit,fun _=>⟨[(2,At0 L),(3,At0 (L+1)),(4,At0 (L+2)),(5,i64 0)],[]⟩,fun _ X=>X.heap[L]?=some (.cells (zd ra).toArray 76 (0,0))/\X.heap[L+1]?=some (.cells (zd rb).toArray 76 (0,0))/\X.heap[L+2]?=some (.cells (zd zz).toArray 76 (0,0))/\Bw w X,?_,?_⟩
 ·have m:=wz w (.cells (zd ra).toArray 76);have g:=wz (w.alloc (.cells (zd ra).toArray 76)) (.cells (zd rb).toArray 76);have f:=zw (w.alloc (.cells (zd ra).toArray 76)) (.cells (zd rb).toArray 76);have h:=zw ((w.alloc (.cells (zd ra).toArray 76)).alloc (.cells (zd rb).toArray 76)) (.cells (zd zz).toArray 76);rw[m] at g f;rw[g] at h;refine⟨(),⟨.cons (by rw[b];rfl) (.cons (by rw[b,<- m];rfl) (.cons (by rw[b,<- g];rfl) (.cons rfl .nil))),rfl⟩,?_,?_,?_,?_⟩
  ·rw[b];exact z6 _ (z6 _ (zw w _))
  ·rw[b];exact z6 _ f
  ·rw[b];exact h
  ·exact(((zba w _)).alloc (by simp) _).alloc (by simp;omega) _
 rintro _ X ⟨l,k,j,d⟩;refine cmo (zeQ (row:=fun i=>ra.to i|||rb.to i) l k ha hb (by kernel_rfl) (fun e n f i Y q a=>?_)) ?_
 ·have o:=(qJ n).2.1;exact zpi (zb a l) (zb a k) ha hb (by omega)
 rintro e Y ⟨rfl,a⟩;exact zo (v := .agg (zd (zco ra rb).1).toArray) k76 (zb a j) rfl rfl (zD _) ⟨zd (zco ra rb).1,ze _,za (zk (zb a j)),rfl,zh ((zst d a)) (by omega) _⟩
theorem zrj{ba bb i:Nat}(fa:w.heap[ba]?=some (.cells (zd ra).toArray 76 (0,0)))(fb:w.heap[bb]?=some (.cells (zd rb).toArray 76 (0,0)))(ha:zG ra.to)(hb:zG rb.to)(hi:i<48) :
  CB 212 (i64 (i:Nat)::[At0 ba,At0 bb]).toArray w (s64 (ra.to i&&&rb.to i)):=by
 refine zC 14 (i64 (i:Nat)::[At0 ba,At0 bb]) Tryz.func212 ?_;refine DrawE.ord [] [0,1,2,3,4,5,6,7,8,9] (by kernel_rfl) ?_;have a:Bw w w.drew:=(UR _ w).drew;exact⟨i,rfl,hi,_,j6 (hdr fa) hi,i,rfl,hi,_,j6 (hdr fb) hi,_,jo (ha i hi) (hb i hi),rfl,a⟩
theorem zpu(ha:zG ra.to)(hb:zG rb.to):CB 162 #[.agg (zd ra).toArray,.agg (zd rb).toArray] w (.tuple #[.agg (zd (zaL ra rb).1).toArray,i64 (zaL ra rb).2]):=by
 refine qg 10 [.agg (zd ra).toArray,.agg (zd rb).toArray] (.c .p .p) Tryz.func162 ?_;obtain⟨L,b⟩:=nm (w.heap.size);refine⟨Unit,fun _=>⟨[(2,At0 L),(3,At0 (L+1)),(4,At0 (L+2)),(5,i64 0)],[]⟩,fun _ X=>X.heap[L]?=some (.cells (zd ra).toArray 76 (0,0))/\X.heap[L+1]?=some (.cells (zd rb).toArray 76 (0,0))/\X.heap[L+2]?=some (.cells (zd zz).toArray 76 (0,0))/\Bw w X,?_,?_⟩
 ·have m:=wz w (.cells (zd ra).toArray 76);have g:=wz (w.alloc (.cells (zd ra).toArray 76)) (.cells (zd rb).toArray 76);have f:=zw (w.alloc (.cells (zd ra).toArray 76)) (.cells (zd rb).toArray 76);have h:=zw ((w.alloc (.cells (zd ra).toArray 76)).alloc (.cells (zd rb).toArray 76)) (.cells (zd zz).toArray 76);rw[m] at g f;rw[g] at h;refine⟨(),⟨.cons (by rw[b];rfl) (.cons (by rw[b,<- m];rfl) (.cons (by rw[b,<- g];rfl) (.cons rfl .nil))),rfl⟩,?_,?_,?_,?_⟩
  ·rw[b];exact z6 _ (z6 _ (zw w _))
  ·rw[b];exact z6 _ f
  ·rw[b];exact h
  ·exact(((zba w _)).alloc (by simp) _).alloc (by simp;omega) _
 rintro _ X ⟨l,k,j,d⟩;refine cmo (zeQ (row:=fun i=>ra.to i&&&rb.to i) l k ha hb (by kernel_rfl) (fun e n f i Y q a=>?_)) ?_
 ·have o:=(qJ n).2.1;exact zrj (zb a l) (zb a k) ha hb (by omega)
 rintro e Y ⟨rfl,a⟩;exact zo (v := .agg (zd (zaL ra rb).1).toArray) k76 (zb a j) rfl rfl (zD _) ⟨zd (zaL ra rb).1,ze _,za (zk (zb a j)),rfl,zh ((zst d a)) (by omega) _⟩
theorem zq9{ba bb i:Nat}(fa:w.heap[ba]?=some (.cells (zd ra).toArray 76 (0,0)))(fb:w.heap[bb]?=some (.cells (zd rb).toArray 76 (0,0)))(ha:zG ra.to)(hb:zG rb.to)(hi:i<48)(h48:∀j∈els (ra.to i),j<48)(hT:Tz64M w) :
  CB 210 (i64 (i:Nat)::[At0 bb,At0 ba]).toArray w (s64 (zeI rb.to (ra.to i))):=by
 refine zC 10 (i64 (i:Nat)::[At0 bb,At0 ba]) Tryz.func210 ?_;refine⟨i,rfl,hi,_,j6 fa hi,cmo (zqp fb hb (ha i hi) h48 hT) ?_⟩;rintro e Y ⟨rfl,a⟩;exact⟨rfl,a⟩
theorem zbH(ha:zG ra.to)(hb:zG rb.to)(hT:Tz64M w):CB 161 #[.agg (zd ra).toArray,.agg (zd rb).toArray] w (.tuple #[.agg (zd (q9 ra rb).1).toArray,i64 (q9 ra rb).2]):=by
 refine qg 10 [.agg (zd ra).toArray,.agg (zd rb).toArray] (.c .p .p) Tryz.func161 ?_;obtain⟨L,b⟩:=nm (w.heap.size);refine⟨Unit,fun _=>⟨[(2,At0 L),(3,At0 (L+1)),(4,At0 (L+2)),(5,i64 0)],[]⟩,fun _ X=>X.heap[L]?=some (.cells (zd ra).toArray 76 (0,0))/\X.heap[L+1]?=some (.cells (zd rb).toArray 76 (0,0))/\X.heap[L+2]?=some (.cells (zd zz).toArray 76 (0,0))/\Bw w X,?_,?_⟩
 ·have m:=wz w (.cells (zd ra).toArray 76);have g:=wz (w.alloc (.cells (zd ra).toArray 76)) (.cells (zd rb).toArray 76);have f:=zw (w.alloc (.cells (zd ra).toArray 76)) (.cells (zd rb).toArray 76);have h:=zw ((w.alloc (.cells (zd ra).toArray 76)).alloc (.cells (zd rb).toArray 76)) (.cells (zd zz).toArray 76);rw[m] at g f;rw[g] at h;refine⟨(),⟨.cons (by rw[b];rfl) (.cons (by rw[b,<- m];rfl) (.cons (by rw[b,<- g];rfl) (.cons rfl .nil))),rfl⟩,?_,?_,?_,?_⟩
  ·rw[b];exact z6 _ (z6 _ (zw w _))
  ·rw[b];exact z6 _ f
  ·rw[b];exact h
  ·exact(((zba w _)).alloc (by simp) _).alloc (by simp;omega) _
 rintro _ X ⟨o,l,k,d⟩;refine cmo (zeQ (row:=fun i=>zeI rb.to (ra.to i)) o l ha hb (by kernel_rfl) (fun e n f i Y s a=>?_)) ?_
 ·have r:=(qJ n).2.1;exact zq9 (zb a o) (zb a l) ha hb (by omega) (fun j q=>(zh1 n ha (by omega) j q).2) ((hT.below d).below a)
 rintro e Y ⟨rfl,a⟩;exact zo (v := .agg (zd (q9 ra rb).1).toArray) k76 (zb a k) rfl rfl (zD _) ⟨zd (q9 ra rb).1,ze _,za (zk (zb a k)),rfl,zh ((zst d a)) (by omega) _⟩
theorem ztm{ba i s:Nat}(fa:w.heap[ba]?=some (.cells #[s64 s] 73 (0,0)))(hs:s<2^64)(hi:i<48) :
  CB 310 (i64 (i:Nat)::[At0 ba]).toArray w (s64 (s&&&2^i)):=by
 refine zC 8 (i64 (i:Nat)::[At0 ba]) Tryz.func310 ?_;exact DrawE.ord [] [0,1,2,3,4] (by kernel_rfl) ⟨_,zc (za (hdr fa)) (i:=0) rfl,by omega,_,jn (e:=i) (by omega),_,jo hs (zT (by omega)),rfl,(UR _ w).drew⟩
theorem ztl{n s:Nat}(hn:n<=48)(hs:s<2^64):CB 281 #[i64 n,s64 s] w (.agg (zd (idR n s)).toArray):=by
 refine qg 15 [i64 n,s64 s] (.c .p (.s .p .p)) Tryz.func281 ?_;obtain⟨L,f⟩:=nm (w.heap.size);refine⟨Unit,fun _=>⟨[(0,i64 n),(3,At0 L),(4,At0 (L+1))],[]⟩,fun _ X=>X.heap[L]?=some (.cells #[s64 s] 73 (0,0))/\X.heap[L+1]?=some (.cells (zd zz).toArray 76 (0,0))/\Bw w X,?_,?_⟩
 ·have j:=wz w (.cells #[s64 s] 73);have h:=zw (w.alloc (.cells #[s64 s] 73)) (.cells (zd zz).toArray 76);rw[j] at h;refine⟨(),⟨.cons rfl (.cons (by rw[f];rfl) (.cons (by rw[f,<- j];rfl) .nil)),rfl⟩,?_,?_,?_⟩
  ·rw[f];exact z6 _ (zw w _)
  ·rw[f];exact h
  ·exact((zba w _)).alloc (by simp) _
 rintro _ X ⟨l,k,g⟩;refine brN (QX (by omega)) (brN (QX (by omega)) (cmo (zio (w:=X) (n:=n) (row:=fun a=>s&&&2^a) hn (by kernel_rfl) (fun i Z m b=>ztm (zb b l) hs (by omega))) ?_));rintro e Z ⟨rfl,b⟩;have d:=zb b k;exact zo (v := .agg (zd (idR n s)).toArray) k76 d rfl rfl (zD _) ⟨zd (idR n s),ze _,za (zk d),rfl,zh ((zst g b)) (by omega) _⟩
theorem zsK(ha:zG ra.to):CB 213 #[.agg (zd ra).toArray] w (s64 (zjp ra)):=by
 refine zC 24 [.agg (zd ra).toArray] Tryz.func213 ?_;have l:=zw w (.cells (zd ra).toArray 76);have t:Bw w (w.alloc (.cells (zd ra).toArray 76)):=zba w _;refine⟨zd ra,ze _,za l,hlt l,cmo (jk ha) ?_⟩;rintro e X ⟨rfl,d⟩;have j:=zst t d;have o:=zb d l;refine biE (fun h=>?_) fun h=>?_
 ·have h:okR ra=false:=by
   have h:(!okR ra)=true:=h;simpa using h
  exact⟨by unfold zjp;rw[h];rfl,j⟩
 have h:okR ra=true:=by
  have h:(!okR ra)=false:=h;simpa using h
 obtain⟨v,p,_⟩:=qJ h;obtain⟨n,m⟩:∃n:Nat,ra.n=n:=⟨ra.n.toNat,by omega⟩;refine⟨i64 n,by rw[<- m];exact zc (za o) (i:=0) rfl,?_⟩;have r:zjp ra=(List.range n).foldl (fun s a=>if ra.to a=0 then s else s|||2^a) 0:=by unfold zjp;rw[Gd h,m];rfl
 refine⟨Nat,fun k=>⟨[(1,.pointer (some ⟨w.heap.size,0,none⟩)),(3,s64 ((List.range k).foldl (fun s a=>if ra.to a=0 then s else s|||2^a) 0)),(9,i64 n),(10,i64 (k:Nat))],[]⟩,fun k Y=>X=Y/\k<=n/\(List.range k).foldl (fun s a=>if ra.to a=0 then s else s|||2^a) 0<2^64,fun k=>n-k,0,
  (cvE rfl rfl),⟨rfl,UP _,(by decide:0<2^64)⟩,?_⟩
 rintro k _ ⟨rfl,u,b⟩;refine biE (fun g=>?_) fun g=>?_
 ·have g:(k:Int)<(n:Int):=dT g;have f:k<n:=by omega
  have step:(List.range (k+1)).foldl (fun s a=>if ra.to a=0 then s else s|||2^a) 0=if ra.to k=0 then(List.range k).foldl (fun s a=>if ra.to a=0 then s else s|||2^a) 0 else(List.range k).foldl (fun s a=>if ra.to a=0 then s else s|||2^a) 0|||2^k:=by
   rw[QL,KL];rfl
  refine⟨k,rfl,by omega,?_⟩;refine⟨_,j6 o (by omega),biE (fun c=>?_) fun c=>?_⟩
  ·have c:¬ra.to k=0:=fun e=>by
    have c:(!decide (((ra.to k:Nat):Int)=0))=true:=c;rw[e] at c;exact Ge c (by decide)
   rw[Gc c] at step;exact⟨by omega,_,jn (e:=k) (by omega),_,jB b (zT (by omega)),nxI (by omega) ⟨k+1,⟨.cons rfl (.cons (by rw[step];rfl) (.cons rfl (.cons rfl .nil))),rfl⟩,⟨rfl,f,by rw[step];exact KR b (zT (by omega))⟩,zdc (by omega)⟩⟩
  ·have c:ra.to k=0:=by
    have c:(!decide (((ra.to k:Nat):Int)=0))=false:=c;have q:decide (((ra.to k:Nat):Int)=0)=true:=(by simpa using c);exact Uo (dT q)
   rw[Gd c] at step;exact nxI (by omega) ⟨k+1,⟨.cons rfl (.cons (by rw[step];rfl) (.cons rfl (.cons rfl .nil))),rfl⟩,⟨rfl,f,by rw[step];exact b⟩,zdc (by omega)⟩
 ·have g:¬(k:Int)<(n:Int):=dF g;obtain rfl:k=n:=by omega
  exact⟨by rw[r];rfl,j⟩
theorem zrg(ha:zG ra.to):CB 163 #[.agg (zd ra).toArray] w (.bool (zbG ra)):=by
 refine zC 10 [.agg (zd ra).toArray] Tryz.func163 ?_;have d:=zw w (.cells (zd ra).toArray 76);have g:Bw w (w.alloc (.cells (zd ra).toArray 76)):=zba w _;refine⟨zd ra,ze _,za d,hlt d,cmo (jk ha) ?_⟩;rintro e X ⟨rfl,a⟩;have b:=zst g a;have f:=zb a d;refine biE (fun h=>?_) fun h=>?_
 ·have h:okR ra=true:=h;refine⟨zd ra,ze _,za f,hlt f,cmo (zsK ha) ?_⟩;rintro e Y ⟨rfl,c⟩;refine⟨rb ?_,(zst b c)⟩;unfold zbG;rw[h,Un];exact Qw.2 Int.ofNat_inj
 ·have h:okR ra=false:=h;exact⟨rb (by unfold zbG;rw[h];rfl),b⟩
end
end Go.Proofs.YtakcdebpklffiaaGreatDoor
