/- Contracts of functions, and plain facts, for the law that the last text of this claim proves. -/
import Derived.Test.YtkpaomeeknegpaaGreatDoorF3
import Derived.Test.YtkpaomeeknegpaaGreatDoorF2
set_option linter.unusedSimpArgs false
set_option linter.unusedVariables false
namespace Go.Proofs.YtkpaomeeknegpaaGreatDoor
open Go.Vc Go.RowKit Go.Sei
abbrev zbg (X:Wd) (b:Nat) (x:ExD) (q:OA) (c:Nat) (S:List Value):Prop:=X.heap[b]?=some (.cells (exC x q c++S).toArray 95 (0,0))
abbrev z3:Value := .slice none 0 0
theorem zcN {X:Wd} {b:Nat} {x:ExD} {q:OA} {c:Nat} {S:List Value} (h:zbg X b x q c S):X.cell? ⟨b,0+0,none⟩=some (.slice q x.ev.length c):=zc (za h) (zto x q c S)
theorem zam {X:Wd} {b:Nat} {x:ExD} {q:OA} {c:Nat} {S:List Value} (h:zbg X b x q c S) {i:Nat} {v:Value} (hi:S[i]?=some v):X.cell? ⟨b,333+i,none⟩=some v:=by
 have:=zc (za h) (zgc (x:=x) (q:=q) (c:=c) hi);rw [UM] at this;exact this
theorem zp0 {w Z:Wd} {q:OA} {ev:List Ev} {b:Nat} (hl:SlR evE w q ev) (hqb:∀ a,q=some a->a.block≠b) (g:w.grownBy Z (some b)):SlR evE Z q ev:=by
 rcases hl with h | ⟨b',o,h1,h2,h3⟩
 ·exact .inl h
 ·have:=hqb _ h1;exact .inr ⟨b',o,h1,nL h2 g.size,fun i hi=>js (g.block b' h2 (by simpa using this)) (h3 i hi)⟩
theorem zad (p:OA) (n c:Nat):(Value.slice p n c).ownBlock=p.map Addr.block:=by cases p <;> rfl
theorem zgM {α:Type} {E:Enc α} {T B cap:Nat} {w:Wd} {p:OA} {l:List α} (h:OwnS E T B w p cap l) {k T':Nat} {cur:Array Value} {fr:Nat×Nat} (hk:w.heap[k]?=some (.cells cur T' fr)) (hT:T'≠T):some k≠p.map Addr.block:=fun e=>by
 cases hp:p with
 | none=>rw [hp] at e;cases e
 | some a =>
  rw [hp] at e;simp only [QZ,KW] at e;obtain⟨_,_,cur',h'⟩:=zx h hp;rw [<- e,hk] at h';simp at h';exact hT h'.2.1
theorem SatR.mono {α:Type} {r:Result α} {K K':α->Wd->Prop} (h:SatR r K) (k:∀ v w,K v w->K' v w):SatR r K':=by
 obtain⟨v,w',e,h⟩:=h;exact⟨v,w',e,k v w' h⟩
section
variable {α β:Type} {E:Enc α} {E':Enc β} {T T' B B' c c':Nat} {A C:Wd} {p q:OA} {l:List α} {l':List β}
theorem zde (h:OwnS E T B A q c l) (g:A.grownBy C (p.map Addr.block)) (hne:∀ a b',p=some a->q=some b'->a.block≠b'.block):OwnS E T B C q c l :=
 h.same fun b' hb'=>g.block _ (zx h hb').2.1 fun e=>by
  cases hp:p with
  | none=>rw [hp] at e;cases e
  | some a =>
   rw [hp] at e;simp only [QZ,KW] at e;exact hne a b' hp hb' e.symm
theorem jK (h:OwnS E T B A q c l) (hp:OwnS E' T' B' A p c' l') (hT:T≠T') (g:A.grownBy C (p.map Addr.block)):OwnS E T B C q c l :=
 zde h g fun a b' ha hb e=>by
  obtain⟨_,_,c1,h1⟩:=zx h hb;obtain⟨_,_,c2,h2⟩:=zx hp ha;rw [e,h1] at h2;simp at h2;exact hT h2.2
theorem qj {b:Nat} {cur:Array Value} {fr:Nat×Nat} (h:OwnS E T B A q c l) (hb:A.heap[b]?=some (.cells cur T' fr)) (hT:T≠T') (g:A.grownBy C (some b)):OwnS E T B C q c l :=
 h.same fun b' hb'=>g.block _ (zx h hb').2.1 fun e=>by
  obtain⟨_,_,c1,h1⟩:=zx h hb';simp only [KW] at e;rw [e,hb] at h1;simp at h1;exact hT h1.2.1.symm
theorem qo {b:Nat} {cur:Array Value} {fr:Nat×Nat} (hb:A.heap[b]?=some (.cells cur T' fr)) (h:OwnS E T B A q c l) (hT:T'≠T) (g:A.grownBy C (q.map Addr.block)):C.heap[b]?=some (.cells cur T' fr) :=
 (g.block b (hlt hb) (zgM h hb hT)).trans hb
theorem qF {n:Nat} (hp:OwnS E T B A p c l) (hn:n<=A.heap.size) (hB:n<=B) (g:A.grownBy C (p.map Addr.block)):Below n A C:=by
 refine⟨g.os,g.tape,g.output,g.size,fun j hj=>g.block j (by omega) fun e=>?_⟩
 cases h:p with
 | none=>rw [h] at e;cases e
 | some a =>
  rw [h] at e;simp only [QZ,KW] at e;have:=(zx hp h).1;omega
end
theorem zoC {B c k:Nat} {V1:Wd} {p:OA} {l:List Nat} {a:Addr} (ho:OwnS zC 3 B V1 p c l) (ha:zI V1 a ([k].flatMap zC.enc)) (hB:B<=V1.heap.size) (hl:l.length<=100000) {K:Value->Wd->Prop}
  (h:∀ p' c' w',OwnS zC 3 B w' p' c' (l++[k])->V1.grownBy w' (Value.slice p l.length c).ownBlock->(∀ a,p'=some a->p=some a\/a.block=V1.heap.size)->K (.slice p' (l++[k]).length c') w') :
  SatR ((Builtin.append_ #[62,62] 62 #[.slice p l.length c,.slice (some a) 1 1]).run PG V1) K :=
 jj (E:=zC) (T:=3) (B:=B) (l:=l) (news:=[k]) (cap:=c) (m:=1) Tryz.underlying62 k3 rfl rfl rfl ho rfl ha hB (by omega) (by show (l.length+1)*8<=_;omega) fun p' c' w' a1 a2 _ a4=>h p' c' w' a1 a2 a4
theorem zuT {B c:Nat} {V1:Wd} {p:OA} {l:List zaP} {y:zaP} {a:Addr} (ho:OwnS jf 62 B V1 p c l) (ha:zI V1 a ([y].flatMap jf.enc)) (hB:B<=V1.heap.size) (hl:l.length<=100000) {K:Value->Wd->Prop}
  (h:∀ p' c' w',OwnS jf 62 B w' p' c' (l++[y])->V1.grownBy w' (Value.slice p l.length c).ownBlock->(∀ a,p'=some a->p=some a\/a.block=V1.heap.size)->K (.slice p' (l++[y]).length c') w') :
  SatR ((Builtin.append_ #[93,93] 93 #[.slice p l.length c,.slice (some a) 1 1]).run PG V1) K :=
 jj (E:=jf) (T:=62) (B:=B) (l:=l) (news:=[y]) (cap:=c) (m:=1) Tryz.underlying93 k62 rfl rfl rfl ho rfl ha hB (by omega) (by show (l.length+1)*24<=_;omega) fun p' c' w' a1 a2 _ a4=>h p' c' w' a1 a2 a4
section
variable {b:Nat} {x:ExD} {q:OA} {c locs:Nat} {w:Wd}
theorem zov (hm:zbg w b x q c [z3,z3,z3]) (hl:SlR evE w q x.ev) (hqb:∀ a,q=some a->a.block≠b) (hn:x.ev.length<=48) (hlo:locs<=100) (hv:∀ e∈x.ev,e.k=1\/e.k=2->e.l.toNat<locs) :
  Calls PG 110 #[At0 b,i64 locs] w fun e w'=>e = .returned (.tuple #[])/\(∃ (p1 p2 p3:OA) (c1 c2 c3:Nat) (xs ys:List zaP),
   zbg w' b x q c [.slice p1 (zae x locs).rs.length c1,.slice p2 xs.length c2,.slice p3 ys.length c3]/\OwnS zC 3 w.heap.size w' p1 c1 ((zae x locs).rs.map (·.1))/\xs.map (·.1)=(zae x locs).rs.map (·.2)/\OwnS jf 62 w.heap.size w' p2 c2 xs/\(∀ y∈xs,OwnS zC 3 w.heap.size w' y.2.1 y.2.2 y.1) /\
   ys.map (·.1)=(zae x locs).wr/\OwnS jf 62 w.heap.size w' p3 c3 ys/\∀ y∈ys,OwnS zC 3 w.heap.size w' y.2.1 y.2.2 y.1)/\w.grownBy w' (some b):=by
 refine qk 114 [At0 b,i64 locs] (.c .p (.c .p .p)) Tryz.func110 ?_;obtain⟨B,hB⟩:=nm (w.heap.size);have hbw:=hlt hm;obtain⟨W0,hW0⟩:∃ W0:List zaP,W0=List.replicate locs ([],none,0):=⟨_,rfl⟩;have hW0l:W0.length=locs:=by rw [hW0,JM]
 refine⟨Unit,fun _=>⟨[(0,At0 b)],[]⟩,fun _ X=>zbg X b x q c [z3,z3,.slice (some ⟨B,0,none⟩) locs locs]/\RowLH X B W0/\w.grownBy X (some b)/\B<X.heap.size,?_,?_⟩
 ·refine ziq Tryz.underlying93 k62 rfl rfl (by decide) locs (by show 24*_<=_;omega) (by omega) fun X fX hbX sX=>?_;have ez:∀ n,zb9 [Value.slice none 0 0] n=zdW (List.replicate n ([],none,0)):=fun n=>by
   induction n with
   | zero=>rfl
   | succ n ih =>
    show Value.slice none 0 0::zb9 [Value.slice none 0 0] n=slV ([],none,0)::zdW (List.replicate n ([],none,0));rw [<- ih];rfl
  have fX:X.heap[w.heap.size]?=some (.cells (zb9 [Value.slice none 0 0] locs).toArray 62 (0,0)):=fX;rw [ez,<- hW0,<- hB] at fX;have hmX:=(hbX.block b hbw).trans hm;refine zm k93 hmX (o:=0+335) (v := .slice (some ⟨w.heap.size,0,none⟩) locs locs) rfl rfl (by rw [lap,zD];decide) rfl fun Y fY gY sY=>?_;rw [show 0+335=333+2 from rfl,zjg] at fY;exact⟨(),(cvE rfl rfl),by rw [hB];exact fY,(gY.block B (hlt fX) (by simp;omega)).trans fX,zd (zi hbX) gY,by rw [sY,sX,hB];omega⟩
 rintro _ X ⟨hmX,fX,gX,sX⟩;refine⟨List zaP,fun W=>⟨[(0,At0 b)],[]⟩,fun W Z=>zbg Z b x q c [z3,z3,.slice (some ⟨B,0,none⟩) locs locs]/\RowLH Z B W/\w.grownBy Z (some b)/\W.length=locs/\W.map (·.1)=(zae x locs).wr/\Rows B Z W/\∀ y∈W,y.1.length<=48/\∀ a∈y.1,a<x.ev.length,?_,?_⟩
 ·refine⟨_,zcN hmX,?_⟩;refine⟨Nat×List zaP,fun s=>⟨[(0,At0 b),(20,.slice q x.ev.length c),(21,i64 x.ev.length),(22,i64 (s.1:Nat))],[]⟩,
   fun s Z=>s.1<=x.ev.length/\zbg Z b x q c [z3,z3,.slice (some ⟨B,0,none⟩) locs locs]/\RowLH Z B s.2/\w.grownBy Z (some b)/\s.2.length=locs/\zhM s.1 (x.ev.drop s.1) (s.2.map (·.1))=(zae x locs).wr/\Rows B Z s.2/\(∀ y∈s.2,y.1.length<=s.1/\∀ a∈y.1,a<x.ev.length),fun s=>x.ev.length-s.1,(0,W0),
   (cvE rfl rfl),⟨UU _,hmX,fX,gX,hW0l,by rw [hW0,List.map_replicate];rfl,by rw [hW0];exact Rows.nils _ _ _,fun y hy=>by rw [hW0] at hy;rw [Jt hy];exact⟨UU _,fun a ha=>by cases ha⟩⟩,?_⟩
  clear hmX fX gX sX;rintro⟨k,W⟩ Z ⟨hk,hmZ,fZ,gZ,hWl,hacc,hR,hL⟩;dsimp only at hk fZ hWl hacc hR hL ⊢;refine biE (fun hc=>?_) fun hc=>?_
  ·have hc:(k:Int)<(x.ev.length:Int):=dT hc;have hkl:k<x.ev.length:=by omega
   obtain⟨e,he⟩:∃ e,x.ev[k]=e:=⟨_,rfl⟩;have hem:e∈x.ev:=by rw [<- he];exact gM hkl
   rw [<- JE hkl,he] at hacc;have hacc:zhM (k+1) (x.ev.drop (k+1)) (if e.k=2 then (W.map (·.1)).set e.l.toNat ((W.map (·.1)).getD e.l.toNat []++[k]) else W.map (·.1))=(zae x locs).wr:=hacc;have hlZ:=zp0 hl hqb gZ;obtain⟨bp,op,hqe,hlp,hat⟩:=hlZ.at hkl;subst hqe;refine⟨k,rfl,hkl,evE.enc e,rfl,by rw [<- he];exact hat k hkl,hlp,?_⟩;refine zo (X:=Z) (v := .agg (evE.enc e).toArray) k49 rfl rfl (Qg.2 fun u hu=>evE.one e u hu) fun Y hbY fY sY=>?_;have gY:=zd gZ (zi (row:=some b) hbY);have hmY:=zb hbY hmZ;have fBY:=zb hbY fZ;have hRY:Rows B Y W:=hR.same fun y hy a ha=>hbY.block _ (zx (hR.own y hy) ha).2.1;have fY:Y.heap[Z.heap.size]?=some (.cells (evE.enc e).toArray 49 (0,0)):=fY;refine⟨u8 e.k,zc (za fY) (i:=1) rfl,biE (fun h=>?_) fun h=>?_⟩
   ·have h:e.k=2:=qq.1 (dT h);rw [Gi h] at hacc;have hll:=hv e hem (.inr h);obtain⟨l,hle⟩:∃ l,e.l.toNat=l:=⟨_,rfl⟩;rw [hle] at hacc hll;have hlW:l<W.length:=(by omega);obtain⟨y,hy⟩:∃ y,W[l]?=some y:=⟨_,gE hlW⟩;have hym:y∈W:=JY hy;have hgd:(W.map (·.1)).getD l []=y.1:=(by rw [gDe,KR,hy];rfl);rw [hgd] at hacc;have hyo:=hRY.own y hym;have hylen:=(hL y hym).1;have hrl:(zdW W)[l]?=some (slV y):=(by unfold zdW;rw [KR,hy];rfl);have hd:Bw Y Y.drew:=(UW _ Y).drew;have hba:Below Y.drew.heap.size Y.drew (Y.drew.alloc (.cells (zC.enc k).toArray 3)):=zba _ _;have sa:(Y.drew.alloc (.cells (zC.enc k).toArray 3)).heap.size=Y.heap.size+1:=wz _ _;have nB:=zgM hyo fBY (by decide);have nb:=zgM hyo hmY (by decide);have fin:∀ p2 c2 V,OwnS zC 3 B V p2 c2 (y.1++[k])->(Y.drew.alloc (.cells (zC.enc k).toArray 3)).grownBy V (Value.slice y.2.1 y.1.length y.2.2).ownBlock->(∀ a,p2=some a->y.2.1=some a\/a.block=(Y.drew.alloc (.cells (zC.enc k).toArray 3)).heap.size) ->
      (zbg V b x (some ⟨bp,op,none⟩) c [z3,z3,.slice (some ⟨B,0,none⟩) locs locs]/\V.heap[Z.heap.size]?=some (.cells (evE.enc e).toArray 49 (0,0))) /\
      SatR ((storeVar 62 ⟨B,0+l*1,none⟩ (slV (y.1++[k],p2,c2))).run PG V) fun _ S=>zbg S b x (some ⟨bp,op,none⟩) c [z3,z3,.slice (some ⟨B,0,none⟩) locs locs]/\RowLH S B (W.set l (y.1++[k],p2,c2))/\w.grownBy S (some b)/\(W.set l (y.1++[k],p2,c2)).length=locs/\zhM (k+1) (x.ev.drop (k+1)) ((W.set l (y.1++[k],p2,c2)).map (·.1))=(zae x locs).wr/\Rows B S (W.set l (y.1++[k],p2,c2))/\∀ z∈W.set l (y.1++[k],p2,c2),z.1.length<=k+1/\∀ a∈z.1,a<x.ev.length:=by
     intro p2 c2 V oV gV hat2;obtain⟨U,hU⟩:=nm (Y.drew.alloc (.cells (zC.enc k).toArray 3));rw [<- hU] at gV hba sa hat2;have hbYU:Bw Y U:=hd.trans hba;rw [zad] at gV;have gYV:Y.grownBy V (y.2.1.map Addr.block):=zd (zi hbYU) gV;have fBV:RowLH V B W:=(gYV.block B (hlt fBY) nB).trans fBY;have hmV:=(gYV.block b (hlt hmY) nb).trans hmY;have nE:=zgM hyo fY (by decide);refine⟨⟨hmV,(gYV.block _ (hlt fY) nE).trans fY⟩,zm k62 fBV (o:=0+l*1) (v:=slV (y.1++[k],p2,c2)) rfl rfl (by unfold zdW;rw [QI];omega) rfl fun S fS gS sS=>?_⟩;have fS2:RowLH S B (W.set l (y.1++[k],p2,c2)):=by
      rw [US,UM] at fS;refine fS.trans ?_;unfold zdW;rw [UE]
     have hRV:Rows B V (W.set l (y.1++[k],p2,c2)):=hRY.set (y:=(y.1++[k],p2,c2)) hy oV gYV fun a ha=>(hat2 a ha).imp id fun h=>by omega
     have hRS:Rows B S (W.set l (y.1++[k],p2,c2)):=hRV.same fun z hz a ha=>gS.block _ (zx (hRV.own z hz) ha).2.1 fun e=>by
      have h1:=zgM (hRV.own z hz) fBV (by decide);rw [ha] at h1;exact h1 e.symm
     have gyb:w.grownBy S (some b):=by
      have hBb:B≠b:=(by omega);have e1:Below B Y S:=by
       refine Below.trans ⟨gYV.os,gYV.tape,gYV.output,gYV.size,fun j hj=>gYV.block j (by have:=hlt fBY;omega) fun e=>?_⟩ (zk gS (by have:=hlt fBV;omega) (UR _))
       cases hp:y.2.1 with
       | none=>rw [hp] at e;cases e
       | some a =>
        rw [hp] at e;simp only [QZ,KW] at e;have:=(zx hyo hp).1;omega
      rw [hB] at e1;exact jq gY e1
     refine⟨(gS.block b (hlt hmV) (by simp;omega)).trans hmV,fS2,gyb,by rw [QK];exact hWl,?_,hRS,fun z hz=>?_⟩
     ·rw [UE];exact hacc
     ·rcases List.mem_or_eq_of_mem_set hz with h | h
      ·exact⟨by have:=(hL z h).1;omega,(hL z h).2⟩
      ·rw [h];refine⟨by simp only [lap,Qp,QJ];omega,fun a ha=>?_⟩;rcases QM.1 ha with ha | ha
       ·exact (hL y hym).2 a ha
       ·rw [Ky.1 ha];exact hkl
    refine DrawE.treeR [16,18] (.op 0 (.op 1 (.op 2 (.op 4 (.op 6 (.op 7 (.op 8 (.op 9 (.op 10 (.op 11 (.op 12 (.op 13 (.op 14 (.alt (.op 15 (.alt (.op 16 (.alt (.op 3 (.op 5 (.op 17 (.op 18 (.nil))))) (.op 5 (.op 3 (.op 17 (.op 18 (.nil))))))) (.alt (.op 3 (.alt (.op 16 (.op 5 (.op 17 (.op 18 (.nil))))) (.op 5 (.op 16 (.op 17 (.op 18 (.nil))))))) (.op 5 (.alt (.op 16 (.op 3 (.op 17 (.op 18 (.nil))))) (.op 3 (.op 16 (.op 17 (.op 18 (.nil)))))))))) (.alt (.op 3 (.alt (.op 15 (.alt (.op 16 (.op 5 (.op 17 (.op 18 (.nil))))) (.op 5 (.op 16 (.op 17 (.op 18 (.nil))))))) (.op 5 (.op 15 (.op 16 (.op 17 (.op 18 (.nil)))))))) (.op 5 (.alt (.op 15 (.alt (.op 16 (.op 3 (.op 17 (.op 18 (.nil))))) (.op 3 (.op 16 (.op 17 (.op 18 (.nil))))))) (.op 3 (.op 15 (.op 16 (.op 17 (.op 18 (.nil))))))))))))))))))))))) (by kernel_rfl) ⟨_,zam (hdr hmY) (i:=2) rfl,u8 e.l,zc (za (hdr fY)) (i:=2) rfl,l,by rw [<- hle],hll,?_⟩;refine⟨slV y,by have:=zc (za (hdr fBY)) (i:=l*1) (v:=slV y) (by rw [US];exact hrl);exact this,?_⟩;have hsz:x.ev.length-(k+1)<x.ev.length-k:=(by omega);have app:∀ {K:Value->Wd->Prop},(∀ p2 c2 V,((zbg V b x (some ⟨bp,op,none⟩) c [z3,z3,.slice (some ⟨B,0,none⟩) locs locs]/\V.heap[Z.heap.size]?=some (.cells (evE.enc e).toArray 49 (0,0))) /\
      SatR ((storeVar 62 ⟨B,0+l*1,none⟩ (slV (y.1++[k],p2,c2))).run PG V) fun _ S=>zbg S b x (some ⟨bp,op,none⟩) c [z3,z3,.slice (some ⟨B,0,none⟩) locs locs]/\RowLH S B (W.set l (y.1++[k],p2,c2))/\w.grownBy S (some b)/\(W.set l (y.1++[k],p2,c2)).length=locs/\zhM (k+1) (x.ev.drop (k+1)) ((W.set l (y.1++[k],p2,c2)).map (·.1))=(zae x locs).wr/\Rows B S (W.set l (y.1++[k],p2,c2))/\∀ z∈W.set l (y.1++[k],p2,c2),z.1.length<=k+1/\∀ a∈z.1,a<x.ev.length)->K (slV (y.1++[k],p2,c2)) V) ->
      SatR ((Builtin.append_ #[62,62] 62 #[slV y,.slice (some ⟨Y.drew.heap.size,0,none⟩) 1 1]).run PG (Y.drew.alloc (.cells (zC.enc k).toArray 3))) K:=fun {K} h =>
     jj (E:=zC) (T:=3) (B:=B) (l:=y.1) (news:=[k]) (cap:=y.2.2) (m:=1) Tryz.underlying62 k3 rfl rfl rfl (hyo.below (hd.trans hba)) rfl (qK zC k) (by have:=gY.size;omega) (by omega) (by show (y.1.length+1)*8<=_;omega) fun p2 c2 V oV gV hbV hat2=>h p2 c2 V (fin p2 c2 V oV gV hat2)
    have hmA:=qJ (.cells (zC.enc k).toArray 3 (0,0)) (hdr hmY);have fEA:=qJ (.cells (zC.enc k).toArray 3 (0,0)) (hdr fY);refine Ga ?_ (Ga ?_ ?_)
    ·refine⟨⟨by decide,by decide,rfl⟩,zC.enc k,rfl,hba,Ga ?_ (Ga ?_ ?_)⟩
     ·refine app fun p2 c2 V ⟨⟨hmV,fEV⟩,hst⟩=>Ga ?_ ?_
      ·refine⟨_,zam hmV (i:=2) rfl,u8 e.l,zc (za fEV) (i:=2) rfl,l,by rw [<- hle],hll,?_⟩;refine SatR.mono hst ?_;rintro _ S hS;exact nxI (by omega) ⟨(k+1,W.set l (y.1++[k],p2,c2)),(cvE rfl rfl),⟨hkl,hS⟩,hsz⟩
      ·refine⟨u8 e.l,zc (za fEV) (i:=2) rfl,_,zam hmV (i:=2) rfl,l,by rw [<- hle],hll,?_⟩;refine SatR.mono hst ?_;rintro _ S hS;exact nxI (by omega) ⟨(k+1,W.set l (y.1++[k],p2,c2)),(cvE rfl rfl),⟨hkl,hS⟩,hsz⟩
     ·refine⟨_,zam hmA (i:=2) rfl,Ga ?_ ?_⟩
      ·refine app fun p2 c2 V ⟨⟨hmV,fEV⟩,hst⟩=>⟨u8 e.l,zc (za fEV) (i:=2) rfl,l,by rw [<- hle],hll,?_⟩;refine SatR.mono hst ?_;rintro _ S hS;exact nxI (by omega) ⟨(k+1,W.set l (y.1++[k],p2,c2)),(cvE rfl rfl),⟨hkl,hS⟩,hsz⟩
      ·refine⟨u8 e.l,zc (za fEA) (i:=2) rfl,app fun p2 c2 V ⟨⟨hmV,fEV⟩,hst⟩=>⟨l,by rw [<- hle],hll,?_⟩⟩;refine SatR.mono hst ?_;rintro _ S hS;exact nxI (by omega) ⟨(k+1,W.set l (y.1++[k],p2,c2)),(cvE rfl rfl),⟨hkl,hS⟩,hsz⟩
     ·refine⟨u8 e.l,zc (za fEA) (i:=2) rfl,Ga ?_ ?_⟩
      ·refine app fun p2 c2 V ⟨⟨hmV,fEV⟩,hst⟩=>⟨_,zam hmV (i:=2) rfl,l,by rw [<- hle],hll,?_⟩;refine SatR.mono hst ?_;rintro _ S hS;exact nxI (by omega) ⟨(k+1,W.set l (y.1++[k],p2,c2)),(cvE rfl rfl),⟨hkl,hS⟩,hsz⟩
      ·refine⟨_,zam hmA (i:=2) rfl,app fun p2 c2 V ⟨⟨hmV,fEV⟩,hst⟩=>⟨l,by rw [<- hle],hll,?_⟩⟩;refine SatR.mono hst ?_;rintro _ S hS;exact nxI (by omega) ⟨(k+1,W.set l (y.1++[k],p2,c2)),(cvE rfl rfl),⟨hkl,hS⟩,hsz⟩
    ·refine⟨_,zam (hdr hmY) (i:=2) rfl,Ga ?_ ?_⟩
     ·refine⟨⟨by decide,by decide,rfl⟩,zC.enc k,rfl,hba,Ga ?_ ?_⟩
      ·refine app fun p2 c2 V ⟨⟨hmV,fEV⟩,hst⟩=>⟨u8 e.l,zc (za fEV) (i:=2) rfl,l,by rw [<- hle],hll,?_⟩;refine SatR.mono hst ?_;rintro _ S hS;exact nxI (by omega) ⟨(k+1,W.set l (y.1++[k],p2,c2)),(cvE rfl rfl),⟨hkl,hS⟩,hsz⟩
      ·refine⟨u8 e.l,zc (za fEA) (i:=2) rfl,app fun p2 c2 V ⟨⟨hmV,fEV⟩,hst⟩=>⟨l,by rw [<- hle],hll,?_⟩⟩;refine SatR.mono hst ?_;rintro _ S hS;exact nxI (by omega) ⟨(k+1,W.set l (y.1++[k],p2,c2)),(cvE rfl rfl),⟨hkl,hS⟩,hsz⟩
     ·refine⟨u8 e.l,zc (za (hdr fY)) (i:=2) rfl,⟨by decide,by decide,rfl⟩,zC.enc k,rfl,hba,app fun p2 c2 V ⟨⟨hmV,fEV⟩,hst⟩=>⟨l,by rw [<- hle],hll,?_⟩⟩;refine SatR.mono hst ?_;rintro _ S hS;exact nxI (by omega) ⟨(k+1,W.set l (y.1++[k],p2,c2)),(cvE rfl rfl),⟨hkl,hS⟩,hsz⟩
    ·refine⟨u8 e.l,zc (za (hdr fY)) (i:=2) rfl,Ga ?_ ?_⟩
     ·refine⟨⟨by decide,by decide,rfl⟩,zC.enc k,rfl,hba,Ga ?_ ?_⟩
      ·refine app fun p2 c2 V ⟨⟨hmV,fEV⟩,hst⟩=>⟨_,zam hmV (i:=2) rfl,l,by rw [<- hle],hll,?_⟩;refine SatR.mono hst ?_;rintro _ S hS;exact nxI (by omega) ⟨(k+1,W.set l (y.1++[k],p2,c2)),(cvE rfl rfl),⟨hkl,hS⟩,hsz⟩
      ·refine⟨_,zam hmA (i:=2) rfl,app fun p2 c2 V ⟨⟨hmV,fEV⟩,hst⟩=>⟨l,by rw [<- hle],hll,?_⟩⟩;refine SatR.mono hst ?_;rintro _ S hS;exact nxI (by omega) ⟨(k+1,W.set l (y.1++[k],p2,c2)),(cvE rfl rfl),⟨hkl,hS⟩,hsz⟩
     ·refine⟨_,zam (hdr hmY) (i:=2) rfl,⟨by decide,by decide,rfl⟩,zC.enc k,rfl,hba,app fun p2 c2 V ⟨⟨hmV,fEV⟩,hst⟩=>⟨l,by rw [<- hle],hll,?_⟩⟩;refine SatR.mono hst ?_;rintro _ S hS;exact nxI (by omega) ⟨(k+1,W.set l (y.1++[k],p2,c2)),(cvE rfl rfl),⟨hkl,hS⟩,hsz⟩
   ·have h:¬ e.k=2:=fun e'=>dF h (by rw [e'];rfl);rw [Gh h] at hacc;exact nxI (by omega) ⟨(k+1,W),(cvE rfl rfl),⟨hkl,hmY,fBY,gY,hWl,hacc,hRY,fun y hy=>⟨by have:=(hL y hy).1;show _<=k+1;omega,(hL y hy).2⟩⟩,zdc (by omega)⟩
  ·have hc:¬ (k:Int)<(x.ev.length:Int):=dF hc;obtain rfl:k=x.ev.length:=by omega
   rw [Qj] at hacc;exact⟨W,(cvE rfl rfl),hmZ,fZ,gZ,hWl,hacc,hR,fun y hy=>⟨by have:=(hL y hy).1;omega,(hL y hy).2⟩⟩
 rintro W X ⟨hmX,fX,gX,hWl,hwr,hR,hWb⟩;refine⟨_,zcN hmX,?_⟩;obtain⟨RS,hRS⟩:=nm ((zae x locs).rs);have hRSg:RS=zbL x.ev (W.map (·.1)) 0 x.ev:=by rw [hRS,hwr];rfl
 rw [<- hRS,<- hwr];have sX:B<X.heap.size:=hlt fX;refine⟨Nat×List (Nat×List Nat)×List zaP×(OA×Nat)×(OA×Nat),fun s=>⟨[(0,At0 b),(53,.slice q x.ev.length c),(54,i64 x.ev.length),(55,i64 (s.1:Nat))],[]⟩,
  fun s Z=>s.1<=x.ev.length/\RS=s.2.1++zbL x.ev (W.map (·.1)) s.1 (x.ev.drop s.1)/\s.2.1.length<=s.1/\s.2.2.1.map (·.1)=s.2.1.map (·.2)/\zbg Z b x q c [.slice s.2.2.2.1.1 (s.2.1.map (·.1)).length s.2.2.2.1.2,.slice s.2.2.2.2.1 s.2.2.1.length s.2.2.2.2.2,.slice (some ⟨B,0,none⟩) locs locs]/\RowLH Z B W/\w.grownBy Z (some b)/\(∀ y∈W,OwnS zC 3 B Z y.2.1 y.2.2 y.1)/\(∀ y∈s.2.2.1,OwnS zC 3 B Z y.2.1 y.2.2 y.1) /\
   OwnS zC 3 B Z s.2.2.2.1.1 s.2.2.2.1.2 (s.2.1.map (·.1))/\OwnS jf 62 B Z s.2.2.2.2.1 s.2.2.2.2.2 s.2.2.1/\(∀ a,s.2.2.2.1.1=some a->∀ y,y∈s.2.2.1\/y∈W->∀ b',y.2.1=some b'->a.block≠b'.block)/\(∀ a,s.2.2.2.2.1=some a->a.block≠B),
  fun s=>x.ev.length-s.1,(0,[],[],(none,0),(none,0)),
  (cvE rfl rfl),⟨UU _,hRSg,UR _,rfl,hmX,fX,gX,hR.own,fun y hy=>(by cases hy),OwnS.nil,OwnS.nil,fun a ha=>(by cases ha),fun a ha=>(by cases ha)⟩,?_⟩
 clear hmX fX gX hR sX;rintro⟨k,dn,xs,⟨p1,c1⟩,⟨p2,c2⟩⟩ Z ⟨hk,hspec,hdl,hxs,hmZ,fZ,gZ,hWo,hxo,ho1,ho2,hd1,hd2⟩;dsimp only at hk hspec hdl hxs hmZ hxo ho1 ho2 hd1 hd2 ⊢;refine biE (fun hc=>?_) fun hc=>?_
 ·have hc:(k:Int)<(x.ev.length:Int):=dT hc;have hkl:k<x.ev.length:=by omega
  obtain⟨e,he⟩:∃ e,x.ev[k]=e:=⟨_,rfl⟩;have hem:e∈x.ev:=by rw [<- he];exact gM hkl
  rw [<- JE hkl,he] at hspec;have hlZ:=zp0 hl hqb gZ;obtain⟨bp,op,hqe,hlp,hat⟩:=hlZ.at hkl;subst hqe;refine⟨k,rfl,hkl,evE.enc e,rfl,by rw [<- he];exact hat k hkl,hlp,?_⟩;refine zo (X:=Z) (v := .agg (evE.enc e).toArray) k49 rfl rfl (Qg.2 fun u hu=>evE.one e u hu) fun Y hbY fY sY=>?_;have gY:=zd gZ (zi (row:=some b) hbY);have hmY:=zb hbY hmZ;have fBY:=zb hbY fZ;have fY:Y.heap[Z.heap.size]?=some (.cells (evE.enc e).toArray 49 (0,0)):=fY;refine⟨u8 e.k,zc (za fY) (i:=1) rfl,biE (fun h=>?_) fun h=>?_⟩
  ·have h:¬ e.k=1:=fun e'=>by
    rw [e'] at h;exact Gj h (by decide)
   have hspec:RS=dn++(if e.k=1 then (k,((W.map (·.1)).getD e.l.toNat []).filter fun w=>decide ((x.ev.getD w ev0).v=e.v))::zbL x.ev (W.map (·.1)) (k+1) (x.ev.drop (k+1)) else zbL x.ev (W.map (·.1)) (k+1) (x.ev.drop (k+1))):=hspec;rw [Gh h] at hspec;exact nxI (by omega) ⟨(k+1,dn,xs,(p1,c1),(p2,c2)),(cvE rfl rfl),⟨hkl,hspec,by show dn.length<=k+1;omega,hxs,hmY,fBY,gY,fun y hy=>(hWo y hy).below hbY,fun y hy=>(hxo y hy).below hbY,ho1.below hbY,ho2.below hbY,hd1,hd2⟩,zdc (by omega)⟩
  ·have h1:decide ((e.k.toNat:Int)=1)=true:=by simpa using h
   have h:e.k=1:=qq.1 (dT h1);obtain⟨l,hle⟩:∃ l,e.l.toNat=l:=⟨_,rfl⟩;have hll:l<locs:=by rw [<- hle];exact hv e hem (.inl h)
   have hlW:l<W.length:=by omega
   obtain⟨y,hy⟩:∃ y,W[l]?=some y:=⟨_,gE hlW⟩;have hym:y∈W:=JY hy;have hgd:(W.map (·.1)).getD l []=y.1:=by rw [gDe,KR,hy];rfl
   obtain⟨P,hP⟩:∃ P:Nat->Bool,P=fun w=>decide ((x.ev.getD w ev0).v=e.v):=⟨_,rfl⟩;have hspec:RS=dn++(k,y.1.filter P)::zbL x.ev (W.map (·.1)) (k+1) (x.ev.drop (k+1)):=by
    have hspec:RS=dn++(if e.k=1 then (k,((W.map (·.1)).getD e.l.toNat []).filter fun w=>decide ((x.ev.getD w ev0).v=e.v))::zbL x.ev (W.map (·.1)) (k+1) (x.ev.drop (k+1)) else zbL x.ev (W.map (·.1)) (k+1) (x.ev.drop (k+1))):=hspec;rw [Gi h,hle,hgd,<- hP] at hspec;exact hspec
   obtain⟨hy48,hyb⟩:=hWb y hym;have hyo:=(hWo y hym).below hbY;have hrl:(zdW W)[l]?=some (slV y):=by unfold zdW;rw [KR,hy];rfl
   have hd:Bw Y Y.drew:=(UW _ Y).drew;refine DrawE.ord [] [0,1,2,3,4,5,6,7,8,9] (by kernel_rfl) ⟨_,zam (hdr hmY) (i:=2) rfl,u8 e.l,zc (za (hdr fY)) (i:=2) rfl,l,by rw [<- hle],hll,?_⟩;refine⟨slV y,by have:=zc (za (hdr fBY)) (i:=l*1) (v:=slV y) (by rw [US];exact hrl);exact this,?_⟩;obtain⟨M,hM⟩:=nm (Y.heap.size);refine⟨Nat×List Nat×OA×Nat,fun s=>⟨[(0,At0 b),(6,i64 (k:Nat)),(7,At0 Z.heap.size),(8,.slice s.2.2.1 s.2.1.length s.2.2.2),(53,.slice (some ⟨bp,op,none⟩) x.ev.length c),(54,i64 x.ev.length),(55,i64 (k:Nat)),(70,slV y),(71,i64 y.1.length),(72,i64 (s.1:Nat))],[]⟩,
    fun s V=>s.1<=y.1.length/\s.2.1=(y.1.take s.1).filter P/\OwnS zC 3 M V s.2.2.1 s.2.2.2 s.2.1/\Below M Y V,fun s=>y.1.length-s.1,(0,[],none,0),
    (cvE rfl rfl),⟨UU _,rfl,OwnS.nil,by rw [hM];exact hd⟩,?_⟩
   rintro⟨i,fr,p3,c3⟩ V ⟨hi,hfr,hoV,hbV⟩;dsimp only at hi hfr hoV ⊢;have sV:=hbV.size;have hmV:=(hbV.block b (by have:=hlt hmY;omega)).trans hmY;have fEV:=(hbV.block Z.heap.size (by have:=hlt fY;omega)).trans fY;have fBV:=(hbV.block B (by have:=hlt fBY;omega)).trans fBY;have hbYV:Bw Y V:=by rw [hM] at hbV;exact hbV
   have hyoV:=hyo.below hbYV;have hfl:fr.length<=i:=by rw [hfr];exact UI (JL _ _) (by rw [Qr];exact Nat.min_le_left _ _)
   refine biE (fun hc=>?_) fun hc=>?_
   ·have hc:(i:Int)<(y.1.length:Int):=dT hc;have hil:i<y.1.length:=(by omega);have hyi:=hyb y.1[i] (gM hil);have hlV:=zp0 hl hqb (jq gY (hbV.mono (by have:=gY.size;omega)));obtain⟨by_,oy,hye,hly,haty⟩:=hyoV.row.at hil;obtain⟨bq,oq,hqe,hlq,hatq⟩:=hlV.at hyi;simp only [KW,Up,Gc] at hqe;obtain⟨rfl,rfl⟩:=hqe;have htk:(y.1.take (i+1)).filter P=fr++(if P y.1[i] then [y.1[i]] else []):=by
     rw [tsg hil,Kt,hfr]
     cases hPi:P y.1[i] <;> simp [hPi]
    have hPv:P y.1[i]=decide (x.ev[y.1[i]].v=e.v):=by
     rw [hP];show decide ((x.ev.getD y.1[i] ev0).v=e.v)=_;rw [gDe,gE hyi];rfl
    rw [show slV y = .slice (some ⟨by_,oy,none⟩) y.1.length y.2.2 by unfold slV;rw [hye]];refine⟨i,rfl,hil,i64 y.1[i],zc (haty i hil) (i:=0) rfl,DrawE.ord [] [0,1,2,3,4,5,6,7,8,9,10,11] (by kernel_rfl) ⟨_,zcN (hdr hmV),y.1[i],rfl,hyi,?_⟩⟩;have hdV:Bw V V.drew:=(UW _ V).drew;refine⟨u8 x.ev[y.1[i]].v,by have:=zc (zr hdV (hatq y.1[i] hyi)) (i:=3) (v:=u8 x.ev[y.1[i]].v) rfl;exact this,u8 e.v,zc (za (hdr fEV)) (i:=3) rfl,biE (fun hq=>?_) fun hq=>?_⟩
    ·have hq:x.ev[y.1[i]].v=e.v:=qq.1 (dT hq);rw [hPv,Un hq,Gi rfl] at htk;refine⟨⟨by decide,by decide,rfl⟩,zC.enc y.1[i],rfl,?_⟩;have hba:Below V.drew.heap.size V.drew (V.drew.alloc (.cells (zC.enc y.1[i]).toArray 3)):=zba _ _;refine jj (E:=zC) (T:=3) (B:=M) (l:=fr) (news:=[y.1[i]]) (cap:=c3) (m:=1) Tryz.underlying62 k3 rfl rfl rfl (hoV.below (hdV.trans hba)) rfl (qK zC y.1[i]) (by have:=hba.size;have:=hdV.size;omega) (by omega) (by show (fr.length+1)*8<=_;omega) ?_;intro p4 c4 U oU gU hbU hat4;exact nxI (by omega) ⟨(i+1,fr++[y.1[i]],p4,c4),(cvE rfl rfl),⟨hil,htk.symm,oU,((hbV.trans (hdV.mono (by omega))).trans (hba.mono (by have:=hdV.size;omega))).trans hbU⟩,zdc (by omega)⟩
    ·have hq:¬ x.ev[y.1[i]].v=e.v:=fun e'=>dF hq (by rw [e']);rw [hPv,Uc hq] at htk;simp only [Kr,Ge,QF] at htk;exact nxI (by omega) ⟨(i+1,fr,p3,c3),(cvE rfl rfl),⟨hil,htk.symm,hoV.below hdV,hbV.trans (hdV.mono (by omega))⟩,zdc (by omega)⟩
   ·have hc:¬ (i:Int)<(y.1.length:Int):=dF hc;obtain rfl:i=y.1.length:=(by omega);rw [Qt] at hfr;have hbMB:B<=M:=(by have:=hlt fBY;omega);have hxlen:xs.length=dn.length:=by
     have:=Gd List.length hxs;simpa using this
    refine⟨.slice p1 (dn.map (·.1)).length c1,zam hmV (i:=0) rfl,⟨by decide,by decide,rfl⟩,zC.enc k,rfl,?_⟩;obtain⟨V1,hV1⟩:=nm (V.alloc (.cells (zC.enc k).toArray 3));have hb1:Bw V V1:=(by rw [hV1];exact (zba _ _));have s1:V1.heap.size=V.heap.size+1:=(by rw [hV1];exact wz _ _);have hZV:Bw Z V:=zst hbY hbYV;have hZV1:Bw Z V1:=zst hZV hb1;have ho1V:=ho1.below hZV1;rw [<- hV1];refine zoC ho1V (by rw [hV1];exact qK zC k) (by omega) (by rw [QI];omega) fun q1 d1 U oU gU hat1=>?_;rw [zad] at gU;have hmV1:=zb hb1 hmV;have hmU:=qo hmV1 ho1V (by decide) gU;have fBU:=qo (zb hb1 fBV) ho1V (by decide) gU;refine zm k62 hmU (o:=0+333) (v := .slice q1 (dn.map (·.1)++[k]).length d1) rfl rfl (by rw [lap,zD];show 333<336;decide) rfl fun S fS gS sS=>?_;rw [show 0+333=333+0 from rfl,zjg] at fS;have fS:zbg S b x (some ⟨bp,op,none⟩) c [.slice q1 (dn.map (·.1)++[k]).length d1,.slice p2 xs.length c2,.slice (some ⟨B,0,none⟩) locs locs]:=fS;have p1M:∀ a,p1=some a->a.block<M:=fun a ha=>by have:=(zx ho1 ha).2.1;have:=hbY.size;omega
    have hoU:OwnS zC 3 M U p3 c3 fr:=zde (hoV.below hb1) gU fun a b' ha hb e=>by have:=p1M a ha;have:=(zx hoV hb).1;omega
    have hWU:∀ y∈W,OwnS zC 3 B U y.2.1 y.2.2 y.1:=fun y hy=>zde ((hWo y hy).below hZV1) gU fun a b' ha hb=>hd1 a ha y (.inr hy) b' hb;have hxU:∀ y∈xs,OwnS zC 3 B U y.2.1 y.2.2 y.1:=fun y hy=>zde ((hxo y hy).below hZV1) gU fun a b' ha hb=>hd1 a ha y (.inl hy) b' hb;have ho2U:=jK (ho2.below hZV1) ho1V (by decide) gU;have hoS:=qj hoU hmU (by decide) gS;have hWS:∀ y∈W,OwnS zC 3 B S y.2.1 y.2.2 y.1:=fun y hy=>qj (hWU y hy) hmU (by decide) gS;have hxS:∀ y∈xs,OwnS zC 3 B S y.2.1 y.2.2 y.1:=fun y hy=>qj (hxU y hy) hmU (by decide) gS;have ho2S:=qj ho2U hmU (by decide) gS;have ho1S:=qj oU hmU (by decide) gS;have hBb:B≠b:=(by omega);have fBS:=(gS.block B (hlt fBU) (by simp;omega)).trans fBU;refine⟨_,zam fS (i:=1) rfl,⟨by decide,by decide,rfl⟩,jf.enc (fr,p3,c3),rfl,?_⟩;obtain⟨S1,hS1⟩:=nm (S.alloc (.cells (jf.enc (fr,p3,c3)).toArray 62));have hbS1:Bw S S1:=(by rw [hS1];exact (zba _ _));have sS1:S1.heap.size=S.heap.size+1:=(by rw [hS1];exact wz _ _);have ho2S1:=ho2S.below hbS1;have sU:=gU.size;unfold zdX zax;show SatR _ _;rw [<- hS1];refine zuT ho2S1 (by rw [hS1];exact qK jf (fr,p3,c3)) (by omega) (by omega) fun q2 d2 N oN gN hat2=>?_;rw [zad] at gN;have fN:=qo (zb hbS1 fS) ho2S1 (by decide) gN;refine zm k93 fN (o:=0+334) (v := .slice q2 (xs++[(fr,p3,c3)]).length d2) rfl rfl (by rw [lap,zD];show 334<336;decide) rfl fun O fO gO sO=>?_;rw [show 0+334=333+1 from rfl,zjg] at fO;have fO:zbg O b x (some ⟨bp,op,none⟩) c [.slice q1 ((dn++[(k,fr)]).map (·.1)).length d1,.slice q2 (xs++[(fr,p3,c3)]).length d2,.slice (some ⟨B,0,none⟩) locs locs]:=by
     rw [QL];exact fO
    have step:∀ {q:OA} {cc:Nat} {ll:List Nat} {B':Nat},OwnS zC 3 B' S q cc ll->OwnS zC 3 B' O q cc ll:=fun h =>
     qj (jK (h.below hbS1) ho2S1 (by decide) gN) fN (by decide) gO
    have h2B:∀ a,p2=some a->a.block≠B:=hd2;have fBO:RowLH O B W:=by
     have h1:=zb hbS1 fBS;have h2:=(gN.block B (hlt h1) fun e=>by
      cases hp:p2 with
      | none=>rw [hp] at e;cases e
      | some a =>
       rw [hp] at e;simp only [QZ,KW] at e;exact hd2 a hp e.symm).trans h1
     exact (gO.block B (hlt h2) (by simp;omega)).trans h2
    have newr:∀ a,q1=some a->p1=some a\/V.heap.size<=a.block:=fun a ha=>(hat1 a ha).imp id fun h=>by omega
    have new2:∀ a,q2=some a->p2=some a\/U.heap.size<=a.block:=fun a ha=>(hat2 a ha).imp id fun h=>by omega
    have frM:∀ a,p3=some a->M<=a.block/\a.block<V.heap.size:=fun a ha=>⟨(zx hoV ha).1,(zx hoV ha).2.1⟩;have hwb:w.grownBy O (some b):=by
     have sG:=gS.size;have sZ:=hlt fZ;have e0:Below B Z V1:=hZV1.mono (by omega);have e1:Below B V1 U:=qF ho1V (by omega) (UR _) gU;have e2:Below B S S1:=hbS1.mono (by omega);have e3:Below B S1 N:=qF ho2S1 (by omega) (UR _) gN;rw [hB] at e0 e1 e2 e3;exact zd (jq (jq (zd (jq (jq gZ e0) e1) gS) e2) e3) gO
    refine nxI (by omega) ⟨(k+1,dn++[(k,fr)],xs++[(fr,p3,c3)],(q1,d1),(q2,d2)),(cvE rfl rfl),⟨hkl,?_,?_,?_,fO,fBO,hwb,fun y hy=>step (hWS y hy),fun y hy=>?_,?_,qj oN fN (by decide) gO,fun a ha y hy b' hb'=>?_,fun a ha=>?_⟩,zdc (by omega)⟩
    ·show RS=(dn++[(k,fr)])++_;rw [hspec,<- hfr,KL];rfl
    ·show (dn++[(k,fr)]).length<=k+1;simp only [lap,Qp,QJ];omega
    ·show (xs++[(fr,p3,c3)]).map (·.1)=(dn++[(k,fr)]).map (·.2);rw [QL,QL,hxs];rfl
    ·rcases QM.1 hy with hy | hy
     ·exact step (hxS y hy)
     ·rw [Ky.1 hy];exact step (hoS.lower hbMB)
    ·show OwnS zC 3 B O q1 d1 ((dn++[(k,fr)]).map (·.1));rw [QL];exact step ho1S
    ·have old:(y∈xs\/y∈W)\/y=(fr,p3,c3):=by
      rcases hy with hy | hy
      ·rcases QM.1 hy with hy | hy
       ·exact .inl (.inl hy)
       ·exact .inr (Ky.1 hy)
      ·exact .inl (.inr hy)
     rcases old with hy | rfl
     ·rcases newr a ha with h | h
      ·exact hd1 a h y hy b' hb'
      ·have:b'.block<Z.heap.size:=by
        rcases hy with hy | hy
        ·exact (zx (hxo y hy) hb').2.1
        ·exact (zx (hWo y hy) hb').2.1
       have:=hZV.size;omega
     ·have h3:=frM b' hb';rcases newr a ha with h | h
      ·have:=p1M a h;omega
      ·omega
    ·rcases new2 a ha with h | h
     ·exact hd2 a h
     ·omega
 ·have hc:¬ (k:Int)<(x.ev.length:Int):=dF hc;obtain rfl:k=x.ev.length:=by omega
  rw [Qj] at hspec;have hspec:RS=dn++[]:=hspec;rw [QF] at hspec;subst hspec;refine⟨rfl,⟨p1,p2,some ⟨B,0,none⟩,c1,c2,locs,xs,W,by rw [hWl];rw [QI] at hmZ;exact hmZ,by rw [<- hB];exact ho1,hxs,by rw [<- hB];exact ho2,by rw [<- hB];exact hxo,rfl,?_,by rw [<- hB];exact hWo⟩,gZ⟩;rw [<- hB];have:=fZ.own (B:=B) (UR _) (by unfold maxLen;omega);rw [hWl] at this;exact this
end
theorem zm2 {P:Program} {w:Wd} {t ty:TypeId} {a b:Nat} {K:Value->Wd->Prop} (k:K (i64 (min a b:Nat)) w):SatR ((Builtin.min_ #[t,t] ty #[i64 a,i64 b]).run P w) K:=by
 refine SatR.mk (v:=i64 (min a b:Nat)) (w':=w) ?_ k;by_cases h:(b:Int)<a
 ·have e:min a b=b:=Nat.min_eq_right (by omega);rw [e];simp [Builtin.min_,Builtin.min2,i64,h]
 ·have e:min a b=a:=QV (by omega);rw [e];simp [Builtin.min_,Builtin.min2,i64,h]
section
variable {b o:Nat} {x:ExD} {q:OA} {c:Nat} {w:Wd} {r:Value} {p2 p3:OA} {c2 c3 lim:Nat} {xs ys:List zaP}
def zqi (lim:Nat) (fs ws:List (List Nat)):Nat:=match zeX lim fs 1 with
 | none=>0
 | some n=>zf0 lim ws n
theorem zrX (hm:zI w ⟨b,o,none⟩ (exC x q c++[r,.slice p2 xs.length c2,.slice p3 ys.length c3])) (h2:SlR jf w p2 xs) (h3:SlR jf w p3 ys) (hx:∀ y∈xs,y.1.length<=1000) (hy:∀ y∈ys,y.1.length<=1000) (hxl:xs.length<=1000) (hyl:ys.length<=1000) (hl0:1<=lim) (hl:lim<=100000) :
  Calls PG 31 #[.pointer (some ⟨b,o,none⟩),i64 lim] w fun e w'=>e = .returned (i64 (zqi lim (xs.map (·.1)) (ys.map (·.1)):Nat))/\w=w':=by
 refine zF 52 [.pointer (some ⟨b,o,none⟩),i64 lim] Tryz.func31 ?_;have g2:w.cell? ⟨b,o+334,none⟩=some (.slice p2 xs.length c2):=zc hm (zgc (i:=1) rfl);have g3:w.cell? ⟨b,o+335,none⟩=some (.slice p3 ys.length c3):=zc hm (zgc (i:=2) rfl);refine⟨_,g2,?_⟩;obtain⟨fs,hfs⟩:=nm (xs.map (·.1));have hfl:fs.length=xs.length:=by rw [hfs,QI]
 rw [<- hfs];refine⟨Nat×Nat,fun s=>⟨[(0,.pointer (some ⟨b,o,none⟩)),(1,i64 lim),(5,i64 (s.2:Nat)),(14,.slice p2 xs.length c2),(15,i64 xs.length),(16,i64 (s.1:Nat))],[]⟩,
  fun s X=>s.1<=xs.length/\s.2<=lim/\zeX lim (fs.drop s.1) s.2=zeX lim fs 1/\w=X,fun s=>xs.length-s.1,(0,1),
  (cvE rfl rfl),⟨UU _,hl0,rfl,rfl⟩,?_⟩
 rintro⟨k,n⟩ _ ⟨hk,hnl,hacc,rfl⟩;dsimp only at hk hnl hacc ⊢;refine biE (fun hc=>?_) fun hc=>?_
 ·have hc:(k:Int)<(xs.length:Int):=dT hc;have hkl:k<xs.length:=by omega
  obtain⟨bp,op,rfl,hlp,hat⟩:=h2.at hkl;have hfk:fs[k]'(by omega)=xs[k].1:=by simp [hfs]
  rw [<- JE (show k<fs.length by omega),hfk] at hacc;have hacc:(if xs[k].1=[] then none else zeX lim (fs.drop (k+1)) (min (n*xs[k].1.length) lim))=zeX lim fs 1:=hacc;have h1000:=hx xs[k] (gM hkl);refine⟨k,rfl,hkl,slV xs[k],zc (hat k hkl) (i:=0) rfl,biE (fun h=>?_) fun h=>?_⟩
  ·have h:(xs[k].1.length:Int)=0:=dT h;have h0:xs[k].1=[]:=Je (by omega);rw [Gi h0] at hacc;refine⟨?_,rfl⟩;unfold zqi;rw [<- hacc];rfl
  ·have h:¬ (xs[k].1.length:Int)=0:=dF h;have h0:xs[k].1≠[]:=fun e=>h (by rw [e];rfl);rw [Gh h0] at hacc;have hm':n*xs[k].1.length<=100000*1000:=Ul (by omega) h1000;exact⟨((n*xs[k].1.length:Nat):Int),by rw [QD];exact ze (by rw [<- QD];omega),zm2 (nxI (by omega) ⟨(k+1,min (n*xs[k].1.length) lim),(cvE rfl rfl),⟨hkl,Qy _ _,hacc,rfl⟩,zdc (by omega)⟩)⟩
 have hc:¬ (k:Int)<(xs.length:Int):=dF hc;rw [JA (by omega)] at hacc;have hacc:some n=zeX lim fs 1:=hacc;have hres:zqi lim fs (ys.map (·.1))=zf0 lim (ys.map (·.1)) n:=by unfold zqi;rw [<- hacc]
 rw [hres];obtain⟨ws,hws⟩:=nm (ys.map (·.1));have hwl:ws.length=ys.length:=by rw [hws,QI]
 rw [<- hws];clear hres hacc hc hk hfl hfs g2;refine⟨_,g3,?_⟩;refine⟨Nat×Nat,fun s=>⟨[(0,.pointer (some ⟨b,o,none⟩)),(1,i64 lim),(5,i64 (s.2:Nat)),(33,.slice p3 ys.length c3),(34,i64 ys.length),(35,i64 (s.1:Nat))],[]⟩,
  fun s X=>s.1<=ys.length/\s.2<=lim/\zf0 lim (ws.drop s.1) s.2=zf0 lim ws n/\w=X,fun s=>ys.length-s.1,(0,n),
  (cvE rfl rfl),⟨UU _,hnl,rfl,rfl⟩,?_⟩
 rintro⟨k,n'⟩ _ ⟨hk,hnl',hacc,rfl⟩;dsimp only at hk hnl' hacc ⊢;refine biE (fun hc=>?_) fun hc=>?_
 ·have hc:(k:Int)<(ys.length:Int):=dT hc;have hkl:k<ys.length:=by omega
  obtain⟨bp,op,rfl,hlp,hat⟩:=h3.at hkl;have hfk:ws[k]'(by omega)=ys[k].1:=by simp [hws]
  rw [<- JE (show k<ws.length by omega),hfk] at hacc;obtain⟨L,hL⟩:=nm (ys[k].1.length);have hacc:zf0 lim (ws.drop (k+1)) (zf1 lim L L 2 n')=zf0 lim ws n:=by rw [hL];exact hacc
  have h1000:=hy ys[k] (gM hkl);rw [<- hL] at h1000;refine⟨k,rfl,hkl,slV ys[k],zc (hat k hkl) (i:=0) rfl,?_⟩;refine⟨Nat×Nat×Nat,fun s=>⟨[(0,.pointer (some ⟨b,o,none⟩)),(1,i64 lim),(5,i64 (s.2.2:Nat)),(9,slV ys[k]),(10,i64 (s.2.1:Nat)),(33,.slice (some ⟨bp,op,none⟩) ys.length c3),(34,i64 ys.length),(35,i64 (k:Nat))],[]⟩,
   fun s X=>s.2.2<=lim/\L<=s.2.1+s.1/\s.2.1<=L+2/\zf1 lim L s.1 s.2.1 s.2.2=zf1 lim L L 2 n'/\w=X,fun s=>s.1,(L,2,n'),
   (cvE rfl rfl),⟨hnl',by show L<=2+L;omega,by show 2<=L+2;omega,rfl,rfl⟩,?_⟩
  rintro⟨m,j,n2⟩ _ ⟨hn2,hLj,hjL,hK,rfl⟩;dsimp only at hn2 hLj hjL hK ⊢;refine biE (fun hc=>?_) fun hc=>?_
  ·have hc:(j:Int)<(ys[k].1.length:Int):=dT hc;have hjl:j<L:=by omega
   obtain⟨m,rfl⟩:∃ m',m=m'+1:=⟨m-1,by omega⟩;have hK:(if j<L then zf1 lim L m (j+1) (min (n2*j) lim) else n2)=zf1 lim L L 2 n':=hK;rw [Gi hjl] at hK;have hm':n2*j<=100000*1000:=Ul (by omega) (by omega);exact⟨((n2*j:Nat):Int),by rw [QD];exact ze (by rw [<- QD];omega),zm2 (nxI (by omega) ⟨(m,j+1,min (n2*j) lim),(cvE rfl rfl),⟨Qy _ _,by show L<=j+1+m;omega,by show j+1<=L+2;omega,hK,rfl⟩,Qx _⟩)⟩
  ·have hc:¬ (j:Int)<(ys[k].1.length:Int):=dF hc;have hjl:¬ j<L:=by omega
   have hK2:n2=zf1 lim L L 2 n':=by
    rw [<- hK]
    cases m with
    | zero=>rfl
    | succ m =>
     show n2=if j<L then _ else n2
     rw [Gh hjl]
   exact nxI (by omega) ⟨(k+1,n2),(cvE rfl rfl),⟨hkl,hn2,by rw [hK2];exact hacc,rfl⟩,zdc (by omega)⟩
 ·have hc:¬ (k:Int)<(ys.length:Int):=dF hc;rw [JA (by omega)] at hacc;have hacc:n'=zf0 lim ws n:=hacc;rw [<- hacc];exact⟨rfl,rfl⟩
end
theorem jx:(zbo).toArray.size=333:=by kernel_rfl
theorem jI:(zc5).toArray.size=336:=by kernel_rfl
section
variable {w:Wd}
theorem zrQ {n:Nat}:CB 108 #[i64 n] w (.agg (exC (ex0 n) none 0).toArray):=by
 refine qk 13 [i64 n] (.s .p (.c .p .p)) Tryz.func108 ?_;obtain⟨L,hL⟩:=nm (w.heap.size);obtain⟨X0,hX0⟩:=nm (w.alloc (.cells (zbo).toArray 46));have f0:X0.heap[L]?=some (.cells (zbo).toArray 46 (0,0)):=by rw [hX0,hL];exact zy w _
 have s0:X0.heap.size=L+1:=by rw [hX0,hL];exact wz _ _
 have hb0:Bw w X0:=by rw [hX0];exact (zba w _)
 refine⟨Unit,fun _=>⟨[(2,At0 L),(3,At0 (L+1))],[]⟩,fun _ X=>X.heap[L]?=some (.cells (zbo).toArray 46 (0,0))/\zY X (L+1) (zc2 n)/\Bw w X,?_,?_⟩
 ·refine⟨zf (zc2 n),rfl,zo (X:=w.alloc (.cells (zbo).toArray 46 (0,0))) (v := .agg (zf (zc2 n)).toArray) k39 (zg _) (by kernel_rfl) (zE _) fun V hbV fV sV=>?_⟩;rw [<- hX0] at hbV fV sV;rw [s0] at fV sV;exact⟨(),⟨.cons (by rw [hL];rfl) (.cons (by rw [<- s0,hX0];rfl) .nil),rfl⟩,zb hbV f0,fV,(zst hb0 hbV)⟩
 rintro _ X ⟨f1,f2,hbX⟩;refine⟨zf (zc2 n),zg _,za f2,hlt f2,zf (zc2 n),zg _,za f2,hlt f2,zf (zc2 n),zg _,za f2,hlt f2,zf (zc2 n),zg _,za f2,hlt f2,zf (zc2 n),zg _,za f2,hlt f2,zf (zc2 n),zg _,za f2,hlt f2,exC (ex0 n) none 0,by kernel_rfl,?_⟩;exact zt (v := .agg (exC (ex0 n) none 0).toArray) k46 f1 (zD _ _ _) jx (za0 _ _ _) ⟨exC (ex0 n) none 0,zD _ _ _,za (zn f1),rfl,zl hbX (by omega) _⟩
end
structure PathB (locs:Nat) (P:PathD):Prop where
 ev:P.ev.length<=24
 loc:∀ e∈P.ev,e.k=1\/e.k=2->e.l.toNat<locs
 dt:∀ p∈P.data,p.1<P.ev.length/\p.2<P.ev.length
 ct:∀ p∈P.ctrl,p.1<P.ev.length/\p.2<P.ev.length
 rm:∀ p∈P.rmw,p.1<P.ev.length/\p.2<P.ev.length
 dtl:P.data.length<=100000
 ctl:P.ctrl.length<=100000
 rml:P.rmw.length<=100000
structure PthS (B:Nat) (w:Wd) (x:zdv):Prop where
 lt:∀ a,x.2.2.1.1=some a\/x.2.2.2.1.1=some a\/x.2.2.2.2.1=some a->a.block<B
 ev:SlR evE w x.2.1.1 x.1.ev
 dt:SlR prE w x.2.2.1.1 x.1.data
 ct:SlR prE w x.2.2.2.1.1 x.1.ctrl
 rm:SlR prE w x.2.2.2.2.1 x.1.rmw
theorem PthS.below {B:Nat} {w X:Wd} {x:zdv} (h:PthS B w x) (hb:Bw w X):PthS B X x:=⟨h.lt,h.ev.below hb,h.dt.below hb,h.ct.below hb,h.rm.below hb⟩
theorem zX:∀ (vs:List UInt8) (l:Nat),(qs l vs).length=vs.length
 | [],_=>rfl
 | v::vs,l=>by
  show (qs (l+1) vs).length+1=vs.length+1;rw [zX vs]
theorem zbc:∀ (vs:List UInt8) (l:Nat) {k:Nat} (h:k<vs.length),(qs l vs)[k]?=some ⟨-1,2,UInt8.ofNat (l+k),vs[k],0,0,0⟩
 | [],_,_,h=>by cases h
 | v::vs,l,0,_=>rfl
 | v::vs,l,k+1,h=>by
  show (qs (l+1) vs)[k]?=_;rw [zbc vs (l+1) (Nat.lt_of_succ_lt_succ h),Uz,UG 1 k];rfl
theorem zkE {vs:List UInt8} {k:Nat} (h:k<vs.length):(qs 0 vs).take (k+1)=(qs 0 vs).take k++[⟨-1,2,UInt8.ofNat k,vs[k],0,0,0⟩]:=by
 have hl:k<(qs 0 vs).length:=by rw [zX];exact h
 have:=zbc vs 0 h;rw [gE hl,UM] at this;rw [tsg hl,Ua this]
theorem zgu (n:Nat) (Ps:List PathD):n<=Ps.foldl (fun n P=>n+P.ev.length) n:=by
 induction Ps generalizing n with
 | nil=>exact UR _
 | cons P Ps ih=>exact UI (Qv _ _) (ih (n+P.ev.length))
theorem zui {B c:Nat} {V1:Wd} {p:OA} {l:List Ev} {y:Ev} {a:Addr} (ho:OwnS evE 49 B V1 p c l) (ha:zI V1 a ([y].flatMap evE.enc)) (hB:B<=V1.heap.size) (hl:l.length<=100000) {K:Value->Wd->Prop}
  (h:∀ p' c' w',OwnS evE 49 B w' p' c' (l++[y])->V1.grownBy w' (p.map Addr.block)->(∀ a,p'=some a->p=some a\/a.block=V1.heap.size)->K (.slice p' (l++[y]).length c') w') :
  SatR ((Builtin.append_ #[34,34] 34 #[.slice p l.length c,.slice (some a) 1 1]).run PG V1) K :=
 jj (E:=evE) (T:=49) (B:=B) (l:=l) (news:=[y]) (cap:=c) (m:=1) Tryz.underlying34 k49 rfl rfl rfl ho rfl ha hB (by omega) (by show (l.length+1)*16<=_;omega) fun p' c' w' a1 a2 _ a4=>h p' c' w' a1 (by rw [zad] at a2;exact a2) a4
theorem zo6 {f g:Nat->UInt8}:∀ {k:Nat},k<4->(seg 32 (fun i=>u8 (f i))).take (k*8)++seg 8 (fun i=>u8 (g i))++(seg 32 (fun i=>u8 (f i))).drop (k*8+8)=seg 32 (fun i=>u8 (if i/8=k then g (i%8) else f i))
 | 0,_=>by kernel_rfl
 | 1,_=>by kernel_rfl
 | 2,_=>by kernel_rfl
 | 3,_=>by kernel_rfl
 | k+4,h=>by omega
theorem zkk {A Z l r:List Value} {n o m:Nat} (hA:A.length=n) (hl:o+m<=l.length) (hr:r.length=m):(A++(l++Z)).take (n+o)++r++(A++(l++Z)).drop (n+o+m)=A++((l.take o++r++l.drop (o+m))++Z):=by
 subst hA;rw [List.take_length_add_append,Jf (by omega),Uz,Ji,List.drop_append_of_le_length hl];simp only [KL]
theorem zqw (k:Nat) (P:PathD) (Ps:List PathD) (x:ExD):asR k (P::Ps) x=asR (k+1) Ps (zbs x k P):=rfl
theorem znF {k:Nat} {l:List Ev} {j:Nat} (h:j<l.length):jz k (l.take (j+1))=jz k (l.take j)++[{ l[j] with th:=k }]:=by
 rw [tsg h];unfold jz;rw [QL];rfl
theorem zco {n f:Nat} {ps:List (Nat×Nat)} (h:∀ p∈ps,p.1<n/\p.2<n) (hf:f+n<=48):zpn f ps:=fun p hp=>⟨by have:=(h p hp).1;omega,by have:=(h p hp).2;omega⟩
def zuo (B:Nat) (w:Wd) (vs:List Value) (m:MixD):Prop :=
 ∃ (q p1 p2 p3:OA) (c c1 c2 c3:Nat) (xs ys:List zaP),vs=exC m.base q c++[.slice p1 m.rs.length c1,.slice p2 xs.length c2,.slice p3 ys.length c3]/\OwnS evE 49 B w q c m.base.ev /\
  OwnS zC 3 B w p1 c1 (m.rs.map (·.1))/\xs.map (·.1)=m.rs.map (·.2)/\OwnS jf 62 B w p2 c2 xs/\(∀ y∈xs,OwnS zC 3 B w y.2.1 y.2.2 y.1) /\
   ys.map (·.1)=m.wr/\OwnS jf 62 B w p3 c3 ys/\∀ y∈ys,OwnS zC 3 B w y.2.1 y.2.2 y.1
section
variable {w:Wd} {bP cl cp ci:Nat} {pc:List Value} {pl pp pi:OA} {init:List UInt8} {Ps:List zdv}
theorem zmm (fP:w.heap[bP]?=some (.cells pc.toArray 29 (0,0))) (h1:pc[1]?=some (.slice pl init.length cl)) (h2:pc[2]?=some (.slice pi init.length ci)) (hi:SlR zR w pi init) (hi6:init.length<=6)
  (hP:SlR jT w pp Ps) (hPs:∀ x∈Ps,PthS w.heap.size w x) (hPb:∀ x∈Ps,PathB init.length x.1) (hP4:Ps.length<=4) :
  Calls PG 76 #[At0 bP,.slice pp Ps.length cp] w fun e w'=>(∃ vs,match zg5 init (Ps.map (·.1)) with
   | some m=>e = .returned (.tuple #[.agg vs.toArray,.bool true])/\zuo w.heap.size w' vs m
   | none=>e = .returned (.tuple #[.agg vs.toArray,.bool false])/\vs=zc5)/\Bw w w':=by
 refine qk 143 [At0 bP,.slice pp Ps.length cp] (.c .p (.s .p (.c .p (.s .p (.s .p (.c .p (.c .p (.c .p (.c .p (.c .p .p)))))))))) Tryz.func76 ?_;obtain⟨L,hL⟩:=nm (w.heap.size);obtain⟨N,hN⟩:=nm (zbt init.length (Ps.map (·.1)));have hbP:=hlt fP;refine⟨Unit,fun _=>⟨[(0,At0 bP),(1,.slice pp Ps.length cp),(4,At0 L)],[]⟩,fun _ X=>X.heap[L]?=some (.cells (zc5).toArray 95 (0,0))/\Bw w X,?_,?_⟩
 ·exact⟨(),⟨.cons rfl (.cons rfl (.cons (by rw [hL];rfl) .nil)),rfl⟩,by rw [hL];exact zy w _,(zba w _)⟩
 rintro _ X ⟨f0,hbX⟩;have ldP:∀ {X:Wd},Bw w X->∀ {i:Nat} {v:Value},pc[i]?=some v->X.cell? ⟨bP,0+i,none⟩=some v:=fun {X} hb {i v} h=>zc (za ((hb.block bP hbP).trans fP)) (by simpa using h);refine⟨_,ldP hbX h1,Unit,fun _=>⟨[(0,At0 bP),(1,.slice pp Ps.length cp),(4,At0 L),(6,i64 N)],[]⟩,fun _ X=>X.heap[L]?=some (.cells (zc5).toArray 95 (0,0))/\Bw w X,?_,?_⟩
 ·refine⟨Nat×Nat,fun s=>⟨[(0,At0 bP),(1,.slice pp Ps.length cp),(4,At0 L),(6,i64 (s.2:Nat)),(23,.slice pp Ps.length cp),(24,i64 Ps.length),(25,i64 (s.1:Nat))],[]⟩,
   fun s Y=>s.1<=Ps.length/\s.2<=init.length+24*s.1/\((Ps.map (·.1)).drop s.1).foldl (fun n P=>n+P.ev.length) s.2=N/\Y.heap[L]?=some (.cells (zc5).toArray 95 (0,0))/\Bw w Y,fun s=>Ps.length-s.1,(0,init.length),
   (cvE rfl rfl),⟨UU _,UR _,hN.symm,f0,hbX⟩,?_⟩
  clear f0 hbX;rintro⟨k,n⟩ Y ⟨hk,hn,hacc,f0,hbY⟩;dsimp only at hk hn hacc ⊢;refine biE (fun hc=>?_) fun hc=>?_
  ·have hc:(k:Int)<(Ps.length:Int):=dT hc;have hkl:k<Ps.length:=by omega
   obtain⟨x,hx⟩:∃ x,Ps[k]=x:=⟨_,rfl⟩;have hxm:x∈Ps:=by rw [<- hx];exact gM hkl
   have hdp:(Ps.map (·.1)).drop k=x.1::(Ps.map (·.1)).drop (k+1):=by
    rw [<- JE (show k<(Ps.map (·.1)).length by simpa using hkl)];simp [hx]
   rw [hdp] at hacc;have hev:=(hPb x hxm).ev;obtain⟨bp,op,rfl,hlp,hat⟩:=hP.at hkl;refine⟨k,rfl,hkl,jT.enc x,jT.len x,by rw [<- hx];exact zr hbY (hat k hkl),nL hlp hbY.size,zo (X:=Y) (v := .agg (jT.enc x).toArray) zog (jT.len x) rfl (Qg.2 fun u hu=>jT.one x u hu) fun Z hbZ fZ sZ=>?_⟩;have fZ:Z.heap[Y.heap.size]?=some (.cells (jT.enc x).toArray 138 (0,0)):=fZ;exact⟨.slice x.2.1.1 x.1.ev.length x.2.1.2,zc (za fZ) (i:=0) rfl,((n+x.1.ev.length:Nat):Int),(ze (by omega)).trans (by omega),nxI (by omega) ⟨(k+1,n+x.1.ev.length),(cvE rfl rfl),⟨hkl,by show n+x.1.ev.length<=init.length+24*(k+1);omega,hacc,zb hbZ f0,(zst hbY hbZ)⟩,zdc (by omega)⟩⟩
  ·have hc:¬ (k:Int)<(Ps.length:Int):=dF hc;rw [JA (by rw [QI];omega)] at hacc;have hacc:n=N:=hacc;subst hacc;exact⟨(),(cvE rfl rfl),f0,hbY⟩
 clear f0 hbX;rintro _ X ⟨f0,hbX⟩;have hmr:zg5 init (Ps.map (·.1))=if N<=48 then some (zae (j6 init (Ps.map (·.1))) init.length) else none:=by rw [hN];rfl
 have hLX:=hlt f0;refine biE (fun h=>?_) fun h=>?_
 ·have h:(48:Int)<(N:Nat):=dT h;rw [hmr,Gh (by omega)];refine⟨zc5,by kernel_rfl,?_⟩;exact zt (v := .agg (zc5).toArray) k95 f0 jI jI (by kernel_rfl) ⟨zc5,jI,za (zn f0),⟨_,rfl,rfl⟩,zl hbX (by omega) _⟩
 have h:¬ (48:Int)<(N:Nat):=dF h;have hN48:N<=48:=by omega
 rw [hmr,Gi hN48];refine cmo zrQ ?_;rintro e Y ⟨rfl,hbY⟩;refine⟨exC (ex0 N) none 0++[z3,z3,z3],by kernel_rfl,?_⟩;refine zo (X:=Y) (v := .agg (exC (ex0 N) none 0++[z3,z3,z3]).toArray) k95 (by show (exC (ex0 N) none 0++[z3,z3,z3]).length=_;rw [lap,zD];rfl) jI (by show (exC (ex0 N) none 0++[z3,z3,z3]).all _=true;rw [QE,za0];rfl) fun V hbV fV sV=>⟨Nat,fun M=>⟨[(0,At0 bP),(1,.slice pp Ps.length cp),(4,At0 L),(9,At0 M),(10,At0 M)],[]⟩,fun M X=>L<M/\zbg X M (ex0 N) none 0 [z3,z3,z3]/\X.heap[L]?=some (.cells (zc5).toArray 95 (0,0))/\Bw w X,?_,?_⟩
 ·exact⟨Y.heap.size,(cvE rfl rfl),by have:=hbY.size;omega,fV,zb hbV (zb hbY f0),((zst hbX hbY)).trans (hbV.mono (by have:=hbX.size;have:=hbY.size;omega))⟩
 clear fV sV hbV V hbY Y;clear f0 hbX hLX;rintro M X ⟨hLM,fM,f0,hbX⟩;dsimp only at fM ⊢;refine⟨OA×Nat,fun _=>⟨[(0,At0 bP),(1,.slice pp Ps.length cp),(4,At0 L),(9,At0 M),(10,At0 M)],[]⟩,fun s X=>zbg X M { ex0 N with ev:=qs 0 init } s.1 s.2 [z3,z3,z3]/\OwnS evE 49 w.heap.size X s.1 s.2 (qs 0 init)/\X.heap[L]?=some (.cells (zc5).toArray 95 (0,0))/\Bw w X,?_,?_⟩
 ·refine⟨_,ldP hbX h2,?_⟩;refine⟨Nat×OA×Nat,fun s=>⟨[(0,At0 bP),(1,.slice pp Ps.length cp),(4,At0 L),(9,At0 M),(10,At0 M),(45,.slice pi init.length ci),(46,i64 init.length),(47,i64 (s.1:Nat))],[]⟩,
   fun s Y=>s.1<=init.length/\zbg Y M { ex0 N with ev:=(qs 0 init).take s.1 } s.2.1 s.2.2 [z3,z3,z3]/\OwnS evE 49 w.heap.size Y s.2.1 s.2.2 ((qs 0 init).take s.1)/\Y.heap[L]?=some (.cells (zc5).toArray 95 (0,0))/\Bw w Y,fun s=>init.length-s.1,(0,none,0),
   (cvE rfl rfl),⟨UU _,fM,OwnS.nil,f0,hbX⟩,?_⟩
  clear fM f0 hbX;rintro⟨k,q,c⟩ Y ⟨hk,fM,ho,f0,hbY⟩;dsimp only at hk fM ho ⊢;refine biE (fun hc=>?_) fun hc=>?_
  ·have hc:(k:Int)<(init.length:Int):=dT hc;have hkl:k<init.length:=by omega
   obtain⟨bi,oi,rfl,hli,hat⟩:=hi.at hkl;have htk:=zkE hkl;have htl:((qs 0 init).take k).length=k:=by rw [Qr,zX];omega
   refine⟨k,rfl,hkl,u8 init[k],zc (zr hbY (hat k hkl)) (i:=0) rfl,_,zcN fM,_,w8N k,?_⟩;obtain⟨e,he⟩:∃ e:Ev,e=⟨-1,2,UInt8.ofNat k,init[k],0,0,0⟩:=⟨_,rfl⟩;refine⟨evE.enc e,by rw [he];rfl,?_⟩;refine⟨⟨by decide,by decide,rfl⟩,evE.enc e,zaZ rfl rfl,?_⟩;obtain⟨Y1,hY1⟩:=nm (Y.alloc (.cells (evE.enc e).toArray 49));have hb1:Bw Y Y1:=by rw [hY1];exact (zba _ _)
   have sY:=hbY.size;have ho1:=ho.below hb1;unfold zdX zax;show SatR _ _;rw [<- hY1];refine zui ho1 (by rw [hY1];exact qK evE e) (by have:=hb1.size;omega) (by omega) fun q1 c1 U oU gU hat1=>?_;have fMU:=qo (zb hb1 fM) ho1 (by decide) gU;have f0U:=qo (zb hb1 f0) ho1 (by decide) gU;refine zm k34 fMU (o:=0+0) (v := .slice q1 ((qs 0 init).take k++[e]).length c1) rfl rfl (by rw [lap,zD];decide) rfl fun S fS gS sS=>?_;rw [show 0+0=0 from rfl,zsD,he,<- htk] at fS;refine nxI (by omega) ⟨(k+1,q1,c1),(cvE rfl rfl),⟨hkl,fS,by rw [he,<- htk] at oU;exact qj oU fMU (by decide) gS,(gS.block L (hlt f0U) (by simp;omega)).trans f0U,?_⟩,zdc (by omega)⟩;have sU:=gU.size;have s1:=hb1.size;exact ((hbY.trans (hb1.mono sY)).trans (qF ho1 (by omega) (UR _) gU)).trans (zk gS (by omega) (by omega))
  ·have hc:¬ (k:Int)<(init.length:Int):=dF hc;obtain rfl:k=init.length:=by omega
   have e:(qs 0 init).take init.length=qs 0 init:=JF (by rw [zX];exact UR _);rw [e] at fM ho;exact⟨(q,c),(cvE rfl rfl),fM,ho,f0,hbY⟩
 clear fM f0 hbX;rintro⟨q,c⟩ X ⟨fM,ho,f0,hbX⟩;dsimp only at fM ho ⊢;obtain⟨x0,hx0⟩:∃ x0:ExD,x0={ ex0 N with ev:=qs 0 init }:=⟨_,rfl⟩;have hx0e:x0.ev=qs 0 init:=by rw [hx0]
 rw [<- hx0] at fM;rw [<- hx0e] at ho;refine⟨OA×Nat,fun _=>⟨[(0,At0 bP),(1,.slice pp Ps.length cp),(4,At0 L),(9,At0 M),(10,At0 M)],[]⟩,fun s X=>zbg X M (asR 0 (Ps.map (·.1)) x0) s.1 s.2 [z3,z3,z3]/\OwnS evE 49 w.heap.size X s.1 s.2 (asR 0 (Ps.map (·.1)) x0).ev/\(asR 0 (Ps.map (·.1)) x0).ev.length=N/\(∀ e∈(asR 0 (Ps.map (·.1)) x0).ev,e.k=1\/e.k=2->e.l.toNat<init.length)/\X.heap[L]?=some (.cells (zc5).toArray 95 (0,0))/\Bw w X,?_,?_⟩
 ·refine⟨Nat×ExD×OA×Nat,fun s=>⟨[(0,At0 bP),(1,.slice pp Ps.length cp),(4,At0 L),(9,At0 M),(10,At0 M),(66,.slice pp Ps.length cp),(67,i64 Ps.length),(68,i64 (s.1:Nat))],[]⟩,
   fun s Y=>s.1<=Ps.length/\asR s.1 ((Ps.map (·.1)).drop s.1) s.2.1=asR 0 (Ps.map (·.1)) x0/\((Ps.map (·.1)).drop s.1).foldl (fun n P=>n+P.ev.length) s.2.1.ev.length=N/\(zJ s.2.1.dt.to/\zJ s.2.1.ct.to/\zJ s.2.1.rm.to)/\(∀ e∈s.2.1.ev,e.k=1\/e.k=2->e.l.toNat<init.length) /\
    zbg Y M s.2.1 s.2.2.1 s.2.2.2 [z3,z3,z3]/\OwnS evE 49 w.heap.size Y s.2.2.1 s.2.2.2 s.2.1.ev/\Y.heap[L]?=some (.cells (zc5).toArray 95 (0,0))/\Bw w Y,fun s=>Ps.length-s.1,(0,x0,q,c),
   (cvE rfl rfl),⟨UU _,rfl,by rw [hN,hx0e,zX];rfl,?_,?_,fM,ho,f0,hbX⟩,?_⟩
  ·rw [hx0];exact⟨fun i _=>(by decide:0<2^64),fun i _=>(by decide:0<2^64),fun i _=>(by decide:0<2^64)⟩
  ·intro e he _;rw [hx0e] at he;obtain⟨j,hj⟩:=List.mem_iff_getElem?.1 he;have hjl:j<init.length:=by
    have:=(Jr.1 hj).1
    rwa [zX] at this
   rw [zbc init 0 hjl] at hj;rw [<- Ua hj];show (UInt8.ofNat (0+j)).toNat<init.length;have:=zlr (n:=0+j) (by omega);omega
  clear fM ho f0 hbX;rintro⟨k,x,q,c⟩ Y ⟨hk,hacc,hfold,⟨hw1,hw2,hw3⟩,hloc,fM,ho,f0,hbY⟩;dsimp only at hk hacc hfold hw1 hw2 hw3 hloc fM ho ⊢;refine biE (fun hc=>?_) fun hc=>?_
  ·have hc:(k:Int)<(Ps.length:Int):=dT hc;have hkl:k<Ps.length:=by omega
   obtain⟨y,hy⟩:∃ y,Ps[k]=y:=⟨_,rfl⟩;have hym:y∈Ps:=by rw [<- hy];exact gM hkl
   have hdp:(Ps.map (·.1)).drop k=y.1::(Ps.map (·.1)).drop (k+1):=by
    rw [<- JE (show k<(Ps.map (·.1)).length by simpa using hkl)];simp [hy]
   rw [hdp] at hacc hfold;rw [zqw] at hacc;have hfold:((Ps.map (·.1)).drop (k+1)).foldl (fun n P=>n+P.ev.length) (x.ev.length+y.1.ev.length)=N:=hfold;have hsz:=zgu (x.ev.length+y.1.ev.length) ((Ps.map (·.1)).drop (k+1));rw [hfold] at hsz;obtain⟨b24,bloc,bdt,bct,brm,ldt,lct,lrm⟩:=hPb y hym;obtain⟨bp,op,rfl,hlp,hat⟩:=hP.at hkl;refine⟨k,rfl,hkl,jT.enc y,jT.len y,by rw [<- hy];exact zr hbY (hat k hkl),nL hlp hbY.size,zo (X:=Y) (v := .agg (jT.enc y).toArray) zog (jT.len y) rfl (Qg.2 fun u hu=>jT.one y u hu) fun Z hbZ fZ sZ=>?_⟩;obtain⟨D,hD⟩:=nm (Y.heap.size);have fD:Z.heap[D]?=some (.cells (jT.enc y).toArray 138 (0,0)):=by rw [hD];exact fZ
   have hMD:M<D:=by rw [hD];exact hlt fM
   have eD:At0 Y.heap.size=At0 D:=by rw [hD]
   have fMZ:=zb hbZ fM;have f0Z:=zb hbZ f0;have hoZ:=ho.below hbZ;have hwZ:=zst hbY hbZ;refine⟨_,zcN fMZ,.slice y.2.1.1 y.1.ev.length y.2.1.2,by rw [<- hD];exact zc (za fD) (i:=0) rfl,?_⟩;refine⟨Nat×OA×Nat,fun s=>⟨[(0,At0 bP),(1,.slice (some ⟨bp,op,none⟩) Ps.length cp),(4,At0 L),(9,At0 M),(10,At0 M),(13,i64 (k:Nat)),(14,At0 D),(15,i64 x.ev.length),(66,.slice (some ⟨bp,op,none⟩) Ps.length cp),(67,i64 Ps.length),(68,i64 (k:Nat)),(79,.slice y.2.1.1 y.1.ev.length y.2.1.2),(80,i64 y.1.ev.length),(81,i64 (s.1:Nat))],[]⟩,
    fun s V=>s.1<=y.1.ev.length/\zbg V M { x with ev:=x.ev++jz k (y.1.ev.take s.1) } s.2.1 s.2.2 [z3,z3,z3]/\OwnS evE 49 w.heap.size V s.2.1 s.2.2 (x.ev++jz k (y.1.ev.take s.1))/\V.heap[L]?=some (.cells (zc5).toArray 95 (0,0))/\V.heap[D]?=some (.cells (jT.enc y).toArray 138 (0,0))/\Bw w V,fun s=>y.1.ev.length-s.1,(0,q,c),
    ⟨.cons rfl (.cons rfl (.cons rfl (.cons rfl (.cons rfl (.cons rfl (.cons (Gd some eD) (.cons rfl (.cons rfl (.cons rfl (.cons rfl (.cons rfl (.cons rfl (.cons rfl .nil))))))))))))),rfl⟩,⟨UU _,by show zbg Z M { x with ev:=x.ev++[] } q c _;rw [QF];exact fMZ,by show OwnS _ _ _ Z q c (x.ev++[]);rw [QF];exact hoZ,f0Z,fD,hwZ⟩,?_⟩
   clear fMZ f0Z hoZ hwZ fZ sZ hbZ fM ho f0 hbY;rintro⟨j,q,c⟩ V ⟨hj,fM,ho,f0,fD,hbV⟩;dsimp only at hj fM ho ⊢;have sV:=hbV.size;have hS:=(hPs y hym).below hbV;refine biE (fun hc=>?_) fun hc=>?_
   ·have hc:(j:Int)<(y.1.ev.length:Int):=dT hc;have hjl:j<y.1.ev.length:=(by omega);obtain⟨e,he⟩:∃ e,y.1.ev[j]=e:=⟨_,rfl⟩;have htk:=znF (k:=k) hjl;rw [he] at htk;obtain⟨be,oe,hbe,hle,hate⟩:=hS.ev.at hjl;rw [hbe];refine⟨j,rfl,hjl,evE.enc e,rfl,by rw [<- he];exact hate j hjl,hle,?_⟩;refine zo (X:=V) (v := .agg (evE.enc e).toArray) k49 rfl rfl (Qg.2 fun u hu=>evE.one e u hu) fun T hbT fT sT=>?_;have fT:T.heap[V.heap.size]?=some (.cells (evE.enc e).toArray 49 (0,0)):=fT;refine zm k3 fT (o:=0+0) (v:=i64 (k:Nat)) rfl rfl (by show 0<7;decide) rfl fun T2 fT2 gT2 sT2=>?_;obtain⟨e2,he2⟩:∃ e2:Ev,e2={ e with th:=k }:=⟨_,rfl⟩;have fT2:T2.heap[V.heap.size]?=some (.cells (evE.enc e2).toArray 49 (0,0)):=(by rw [he2];exact fT2);have hVT:Bw V T2:=hbT.trans (zk gT2 (by omega) (UR _));have fM2:=zb hVT fM;have fT3:=hdr fT2;have hd:Bw T2 T2.drew:=(UW _ T2).drew;have hlenx:(x.ev++jz k (y.1.ev.take j)).length<=48:=by
     unfold jz;rw [lap,QI,Qr];omega
    have ho2:=ho.below hVT;refine DrawE.ord [7,10] [0,1,2,3,4,5,6,7,8,9,10] (by kernel_rfl) ⟨_,zcN (hdr fM2),evE.enc e2,rfl,za fT3,hlt fT3,⟨by decide,by decide,rfl⟩,evE.enc e2,zaZ rfl rfl,?_⟩;obtain⟨Y1,hY1⟩:=nm (T2.drew.alloc (.cells (evE.enc e2).toArray 49));have hb1:Bw T2 Y1:=(by rw [hY1];exact hd.trans ((UW T2.drew.heap.size _).alloc (UR _) _));refine⟨(zba _ _),?_⟩;have sT:=hVT.size;have s1:=hb1.size;have ho3:=ho2.below hb1;unfold zn6 zax;show SatR _ _;rw [<- hY1];refine zui ho3 (by rw [hY1];exact qK evE e2) (by omega) (by omega) fun q1 c1 U oU gU hat1=>?_;have fMU:=qo (zb hb1 fM2) ho3 (by decide) gU;have f0U:=qo (zb (hVT.trans (hb1.mono sT)) f0) ho3 (by decide) gU;have fDU:=qo (zb (hVT.trans (hb1.mono sT)) fD) ho3 (by decide) gU;refine zm k34 fMU (o:=0+0) (v := .slice q1 ((x.ev++jz k (y.1.ev.take j))++[e2]).length c1) rfl rfl (by rw [lap,zD];decide) rfl fun S fS gS sS=>?_;have hev2:(x.ev++jz k (y.1.ev.take j))++[e2]=x.ev++jz k (y.1.ev.take (j+1)):=(by rw [htk,he2,KL]);rw [show 0+0=0 from rfl,zsD,hev2] at fS;refine nxI (by omega) ⟨(j+1,q1,c1),(cvE rfl rfl),⟨hjl,fS,by rw [hev2] at oU;exact qj oU fMU (by decide) gS,(gS.block L (hlt f0U) (by simp;omega)).trans f0U,(gS.block D (hlt fDU) (by simp;omega)).trans fDU,?_⟩,zdc (by omega)⟩;have sU:=gU.size;exact ((hbV.trans ((hVT.trans (hb1.mono sT)).mono sV)).trans (qF ho3 (by omega) (UR _) gU)).trans (zk gS (by omega) (by omega))
   ·have hc:¬ (j:Int)<(y.1.ev.length:Int):=dF hc;obtain rfl:j=y.1.ev.length:=(by omega);rw [Qt] at fM ho;obtain⟨x1,hx1⟩:∃ x1:ExD,x1={ x with ev:=x.ev++jz k y.1.ev }:=⟨_,rfl⟩;rw [<- hx1] at fM;have fM0:=fM;have ho0:=ho;have f00:=f0;have fD0:=fD;have hb0:=hbV;have hS0:=hS;obtain⟨x2,hx2⟩:∃ z:ExD,z={ x1 with dt:=zlL x.ev.length y.1.data x.dt }:=⟨_,rfl⟩;obtain⟨A1,Z1,hA1,hE1⟩:=znc x1 q c [z3,z3,z3];have hx1dt:x1.dt=x.dt:=(by rw [hx1]);have hR1:RelAt V M 148 95 A1 Z1 x.dt:=⟨hA1,by
     have h:=hE1 x1.dt;rw [hx1dt] at h;rw [<- h,<- hx1dt];exact fM0⟩
    have dw1:Bw V V.drew:=(UW _ _).drew;refine DrawE.ord [6] [0,1,2,3,4,5,6] (by kernel_rfl) ⟨.slice y.2.2.1.1 y.1.data.length y.2.2.1.2,zc (za (hdr fD0)) (i:=1) rfl,cmo (zpm (f:=x.ev.length) (hR1.same (Y:=V.drew) rfl) hw1 ((hS0.dt).below dw1) (fun a ha=>by have:=hS0.lt a (.inl ha);omega) ldt (zco bdt (by omega))) ?_⟩;rintro e V1 ⟨rfl,hRn1,gn1⟩;have g1:V.grownBy V1 (some M):=zd (zi dw1) gn1;have sg1:=g1.size;have fM1:zbg V1 M x2 q c [z3,z3,z3]:=by
     have h:=hRn1.cells;rw [<- hE1] at h;rw [hx2];exact h
    have ho1:=qj ho0 fM0 (by decide) g1;have f01:=(g1.block L (hlt f00) (by simp;omega)).trans f00;have fD1:=(g1.block D (hlt fD0) (by simp;omega)).trans fD0;have hb1:Bw w V1:=hb0.trans (zk g1 hb0.size (by omega));have hS1:=(hPs y hym).below hb1;obtain⟨x3,hx3⟩:∃ z:ExD,z={ x2 with ct:=zlL x.ev.length y.1.ctrl x.ct }:=⟨_,rfl⟩;obtain⟨A2,Z2,hA2,hE2⟩:=znd x2 q c [z3,z3,z3];have hx2ct:x2.ct=x.ct:=(by rw [hx2];rw [hx1]);have hR2:RelAt V1 M 197 95 A2 Z2 x.ct:=⟨hA2,by
     have h:=hE2 x2.ct;rw [hx2ct] at h;rw [<- h,<- hx2ct];exact fM1⟩
    have dw2:Bw V1 V1.drew:=(UW _ _).drew;refine DrawE.ord [6] [0,1,2,3,4,5,6] (by kernel_rfl) ⟨.slice y.2.2.2.1.1 y.1.ctrl.length y.2.2.2.1.2,zc (za (hdr fD1)) (i:=2) rfl,cmo (zpm (f:=x.ev.length) (hR2.same (Y:=V1.drew) rfl) hw2 ((hS1.ct).below dw2) (fun a ha=>by have:=hS1.lt a (.inr (.inl ha));omega) lct (zco bct (by omega))) ?_⟩;rintro e V2 ⟨rfl,hRn2,gn2⟩;have g2:V1.grownBy V2 (some M):=zd (zi dw2) gn2;have sg2:=g2.size;have fM2:zbg V2 M x3 q c [z3,z3,z3]:=by
     have h:=hRn2.cells;rw [<- hE2] at h;rw [hx3];exact h
    have ho2:=qj ho1 fM1 (by decide) g2;have f02:=(g2.block L (hlt f01) (by simp;omega)).trans f01;have fD2:=(g2.block D (hlt fD1) (by simp;omega)).trans fD1;have hb2:Bw w V2:=hb1.trans (zk g2 hb1.size (by omega));have hS2:=(hPs y hym).below hb2;obtain⟨x4,hx4⟩:∃ z:ExD,z={ x3 with rm:=zlL x.ev.length y.1.rmw x.rm }:=⟨_,rfl⟩;obtain⟨A3,Z3,hA3,hE3⟩:=zm9 x3 q c [z3,z3,z3];have hx3rm:x3.rm=x.rm:=(by rw [hx3];rw [hx2];rw [hx1]);have hR3:RelAt V2 M 246 95 A3 Z3 x.rm:=⟨hA3,by
     have h:=hE3 x3.rm;rw [hx3rm] at h;rw [<- h,<- hx3rm];exact fM2⟩
    have dw3:Bw V2 V2.drew:=(UW _ _).drew;refine DrawE.ord [6] [0,1,2,3,4,5,6] (by kernel_rfl) ⟨.slice y.2.2.2.2.1 y.1.rmw.length y.2.2.2.2.2,zc (za (hdr fD2)) (i:=3) rfl,cmo (zpm (f:=x.ev.length) (hR3.same (Y:=V2.drew) rfl) hw3 ((hS2.rm).below dw3) (fun a ha=>by have:=hS2.lt a (.inr (.inr ha));omega) lrm (zco brm (by omega))) ?_⟩;rintro e V3 ⟨rfl,hRn3,gn3⟩;have g3:V2.grownBy V3 (some M):=zd (zi dw3) gn3;have sg3:=g3.size;have fM3:zbg V3 M x4 q c [z3,z3,z3]:=by
     have h:=hRn3.cells;rw [<- hE3] at h;rw [hx4];exact h
    have ho3:=qj ho2 fM2 (by decide) g3;have f03:=(g3.block L (hlt f02) (by simp;omega)).trans f02;have fD3:=(g3.block D (hlt fD2) (by simp;omega)).trans fD2;have hb3:Bw w V3:=hb2.trans (zk g3 hb2.size (by omega));have hS3:=(hPs y hym).below hb3;have hx5:zbs x k y.1={ x4 with regs:=fun i=>if i/8=k then y.1.regs (i%8) else x4.regs i }:=(by rw [hx4,hx3,hx2,hx1];rfl);obtain⟨A5,Z5,hA5,hE5⟩:=zna x4 q c [z3,z3,z3];have hM5:exC x4 q c++[z3,z3,z3]=A5++(seg 32 (fun i=>u8 (x4.regs i))++Z5):=hE5 x4.regs;have fM5:V3.heap[M]?=some (.cells (A5++(seg 32 (fun i=>u8 (x4.regs i))++Z5)).toArray 95 (0,0)):=(by rw [<- hM5];exact fM3);have hsub:((jT.enc y).drop 4).take 8=seg 8 (fun i=>u8 (y.1.regs i)):=JF (by rw [Qq,jT.len];decide);refine DrawE.ord [8] [0,1,2,3,4,5,6,7,8] (by kernel_rfl) ⟨seg 8 (fun i=>u8 (y.1.regs i)),zG _ _,by rw [<- hsub];have:=zP (n:=4) (m:=8) (za (hdr fD3));exact this,hlt (hdr fD3),k,rfl,by omega,?_⟩;refine jZ k40 (hdr fM5) (o:=295+k*8) (v := .agg (seg 8 (fun i=>u8 (y.1.regs i))).toArray) (zG _ _) (by show 295+k*8+(seg 8 _).length<=(A5++(seg 32 _++Z5)).length;rw [<- hM5,lap,zD,zG];show _<=336;omega) (zbB fun _=>rfl) fun S fS gS sS=>?_;obtain⟨x5,hx5e⟩:=nm (zbs x k y.1);have fS:zbg S M x5 q c [z3,z3,z3]:=by
     refine fS.trans ?_;have e1:=zkk (A:=A5) (Z:=Z5) (l:=seg 32 (fun i=>u8 (x4.regs i))) (r:=seg 8 (fun i=>u8 (y.1.regs i))) (o:=k*8) (m:=8) hA5 (by rw [zG];omega) (zG _ _);rw [zo6 (by omega)] at e1;rw [hx5e,hx5,hE5,<- e1];show some (Obj.cells ((A5++(seg 32 (fun i=>u8 (x4.regs i))++Z5)).take (295+k*8)++seg 8 (fun i=>u8 (y.1.regs i))++(A5++(seg 32 (fun i=>u8 (x4.regs i))++Z5)).drop (295+k*8+(seg 8 (fun i=>u8 (y.1.regs i))).length)).toArray _ _)=_;rw [zG]
    have dw4:Bw V3 V3.drew:=(UW _ _).drew;have g4:V3.grownBy S (some M):=zd (zi dw4) gS;have hev5:x5.ev=x.ev++jz k y.1.ev:=(by rw [hx5e];rfl);have hx1e:x1.ev=x5.ev:=(by rw [hx1,hev5]);have hlen5:x5.ev.length=x.ev.length+y.1.ev.length:=(by rw [hev5,lap];unfold jz;rw [QI]);refine nxI (by omega) ⟨(k+1,x5,q,c),(cvE rfl rfl),⟨hkl,by rw [hx5e];exact hacc,by rw [hlen5];exact hfold,?_,fun e he hk=>?_,fS,?_,(g4.block L (hlt f03) (by simp;omega)).trans f03,hb3.trans (zk g4 hb3.size (by omega))⟩,zdc (by omega)⟩
    ·rw [hx5e];exact⟨zeC hw1 (zco bdt (by omega)),zeC hw2 (zco bct (by omega)),zeC hw3 (zco brm (by omega))⟩
    ·have he:e∈x5.ev:=he;rw [hev5] at he;rcases QM.1 he with he | he
     ·exact hloc e he hk
     ·unfold jz at he;obtain⟨e',he',rfl⟩:=UF.1 he;exact bloc e' he' hk
    ·show OwnS evE 49 w.heap.size S q c x5.ev;rw [hev5];exact qj ho3 fM3 (by decide) g4
  ·have hc:¬ (k:Int)<(Ps.length:Int):=dF hc;rw [JA (by rw [QI];omega)] at hacc hfold;have hacc:x=asR 0 (Ps.map (·.1)) x0:=hacc;have hfold:x.ev.length=N:=hfold;rw [<- hacc];exact⟨(q,c),(cvE rfl rfl),fM,ho,hfold,hloc,f0,hbY⟩
 clear fM ho f0 hbX;rintro⟨q,c⟩ X ⟨fM,ho,hxl,hloc,f0,hbX⟩;dsimp only at fM ho ⊢;obtain⟨AX,hAX⟩:=nm (asR 0 (Ps.map (·.1)) x0);rw [<- hAX] at fM ho hxl hloc;obtain⟨BX,hBX⟩:∃ BX:ExD,BX={ AX with po:=poR AX.ev }:=⟨_,rfl⟩;have hbase:j6 init (Ps.map (·.1))=BX:=by
  rw [hBX,hAX,hx0,hN];rfl
 rw [hbase];refine⟨Unit,fun _=>⟨[(0,At0 bP),(1,.slice pp Ps.length cp),(4,At0 L),(9,At0 M),(10,At0 M)],[]⟩,fun _ X=>zbg X M BX q c [z3,z3,z3]/\OwnS evE 49 w.heap.size X q c BX.ev/\X.heap[L]?=some (.cells (zc5).toArray 95 (0,0))/\Bw w X,?_,?_⟩
 ·refine⟨_,zcN fM,cmo (zdd ho.row (by omega)) ?_⟩;rintro e Y ⟨rfl,hbY⟩;have fMY:=zb hbY fM;obtain⟨A5,Z5,hA5,hE5⟩:=znb AX q c [z3,z3,z3];have hM5:exC AX q c++[z3,z3,z3]=A5++(zf AX.po++Z5):=hE5 AX.po;have fM5:Y.heap[M]?=some (.cells (A5++(zf AX.po++Z5)).toArray 95 (0,0)):=by rw [<- hM5];exact fMY
  refine jZ k39 fM5 (o:=0+1) (v := .agg (zf (poR AX.ev)).toArray) (zg _) (by show 0+1+(zf _).length<=(A5++(zf AX.po++Z5)).length;rw [<- hM5,lap,zD,zg];decide) (zE _) fun S fS gS sS=>?_;have fS:zbg S M BX q c [z3,z3,z3]:=by
   refine fS.trans ?_;have e1:=zkk (A:=A5) (Z:=Z5) (l:=zf AX.po) (r:=zf (poR AX.ev)) (o:=0) (m:=49) hA5 (by rw [zg];omega) (zg _);rw [hBX,hE5];have e2:(zf AX.po).take 0++zf (poR AX.ev)++(zf AX.po).drop (0+49)=zf (poR AX.ev):=by
    rw [Uk,QO,JA (by rw [zg];omega),QF]
   rw [e2] at e1;rw [<- e1];show some (Obj.cells ((A5++(zf AX.po++Z5)).take (0+1)++zf (poR AX.ev)++(A5++(zf AX.po++Z5)).drop (0+1+(zf (poR AX.ev)).length)).toArray _ _)=_;rw [zg]
  have hLX:=hlt f0;have hbwY:=zst hbX hbY;exact⟨(),(cvE rfl rfl),fS,by rw [hBX];exact qj (ho.below hbY) fMY (by decide) gS,(gS.block L (hlt (zb hbY f0)) (by simp;omega)).trans (zb hbY f0),hbwY.trans (zk gS hbwY.size (by omega))⟩
 have hBe:BX.ev=AX.ev:=by rw [hBX]
 clear fM ho f0 hbX;rintro _ X ⟨fM,ho,f0,hbX⟩;refine⟨List Value,fun _=>⟨[(0,At0 bP),(1,.slice pp Ps.length cp),(4,At0 L),(9,At0 M),(10,At0 M)],[]⟩,fun vs X=>X.heap[M]?=some (.cells vs.toArray 95 (0,0))/\zuo w.heap.size X vs (zae BX init.length)/\X.heap[L]?=some (.cells (zc5).toArray 95 (0,0))/\Bw w X,?_,?_⟩
 ·refine⟨_,ldP hbX h1,?_⟩;have hqM:∀ a,q=some a->a.block≠M:=fun a ha e=>by
   obtain⟨_,_,cur,h'⟩:=zx ho ha;rw [e,fM] at h';simp at h'
  refine cmo (zov fM ho.row hqM (by rw [hBe];omega) (by omega) (by rw [hBe];exact hloc)) ?_;rintro e Y ⟨rfl,⟨p1,p2,p3,c1,c2,c3,xs,ys,fY,h1',h2',h3',h4',h5',h6',h7'⟩,gY⟩;have hwX:=hbX.size;refine⟨_,(cvE rfl rfl),fY,⟨q,p1,p2,p3,c,c1,c2,c3,xs,ys,rfl,qj ho fM (by decide) gY,h1'.lower hwX,h2',h3'.lower hwX,fun y hy=>(h4' y hy).lower hwX,h5',h6'.lower hwX,fun y hy=>(h7' y hy).lower hwX⟩,(gY.block L (hlt f0) (by simp;omega)).trans f0,hbX.trans (zk gY hbX.size (by omega))⟩
 clear fM ho f0 hbX;rintro vs X ⟨fM,hv,f0,hbX⟩;have hvl:vs.length=336:=by
  obtain⟨q,p1,p2,p3,c,c1,c2,c3,xs,ys,e,_⟩:=hv;rw [e,lap,zD];rfl
 have hv1:vs.all Value.oneCell'=true:=by
  obtain⟨q,p1,p2,p3,c,c1,c2,c3,xs,ys,e,_⟩:=hv;rw [e,QE,za0];rfl
 refine⟨vs,hvl,za fM,hlt fM,zt (v := .agg vs.toArray) k95 f0 hvl jI hv1 ⟨vs,hvl,za (zn f0),⟨vs,rfl,?_⟩,zl hbX (by omega) _⟩⟩;obtain⟨q,p1,p2,p3,c,c1,c2,c3,xs,ys,e,k1,k2,k3,k4,k5,k6,k7,k8⟩:=hv;have kp:∀ {α:Type} {E:Enc α} {T cc:Nat} {r:OA} {ll:List α},T≠95->OwnS E T w.heap.size X r cc ll->OwnS E T w.heap.size (X.setRow L vs.toArray) r cc ll:=fun {α E T cc r ll} hT h=>qj h f0 hT (jC X L _);exact⟨q,p1,p2,p3,c,c1,c2,c3,xs,ys,e,kp (by decide) k1,kp (by decide) k2,k3,kp (by decide) k4,fun y hy=>kp (by decide) (k5 y hy),k6,kp (by decide) k7,fun y hy=>kp (by decide) (k8 y hy)⟩
end
def Rds (ev:Nat->Ev) (n s:Nat):Prop:=∀ b,s.testBit b=true->b<n/\(ev b).k=1
theorem zgC (ev:Nat->Ev) (n:Nat):Rds ev n 0:=fun b h=>by simp at h
theorem Rds.or {ev:Nat->Ev} {n s t:Nat} (h:Rds ev n s) (k:Rds ev n t):Rds ev n (s|||t):=fun b hb=>by
 rw [Um,QC] at hb;exact hb.elim (h b) (k b)
theorem Rds.mono {ev:Nat->Ev} {n m s:Nat} (h:Rds ev n s) (hm:n<=m):Rds ev m s:=fun b hb=>⟨nL (h b hb).1 hm,(h b hb).2⟩
theorem zf9 {ev:Nat->Ev} {n b:Nat} (hb:b<n) (hk:(ev b).k=1):Rds ev n (2^b):=fun c hc=>by
 rw [Km] at hc;have e:b=c:=dT hc;rw [<- e];exact⟨hb,hk⟩
theorem Rds.upd {ev:Nat->Ev} {n m s:Nat} {e:Ev} (h:Rds ev n s) (hm:n<=m):Rds (upd ev m e) n s:=fun b hb=>by
 obtain⟨h1,h2⟩:=h b hb;rw [qz _ _ (by omega)];exact⟨h1,h2⟩
def zsp (k i:Nat) (e:Ev):Prop:=e.th=0/\e.p=UInt8.ofNat i/\(((e.k=1\/e.k=2)/\e.l.toNat<k)\/(e.k=3/\e.l=0/\e.v=0))
structure RunW (k:Nat) (R:RunD):Prop where
 ev:∀ i,i<R.many->zsp k i (R.ev i)
 deps:∀ j,Rds R.ev R.many (R.deps j)
 ctl:Rds R.ev R.many R.ctl
 data:∀ i,i<R.many->Rds R.ev i (R.data i)/\(R.data i≠0->(R.ev i).k=2)
 ctrl:∀ i,i<R.many->Rds R.ev i (R.ctrl i)
 att:∀ i,i<R.many->R.att i=0\/∃ b,i=b+1/\R.att i=2^b/\(R.ev b).k=1/\(R.ev i).k=2/\(R.ev b).l=(R.ev i).l
 fresh:∀ i,R.many<=i->R.att i=0
theorem zsR (k:Nat):RunW k zi0 where
 ev:=fun i h=>Gj h (QW i)
 deps:=fun j=>zgC _ _
 ctl:=zgC _ _
 data:=fun i h=>Gj h (QW i)
 ctrl:=fun i h=>Gj h (QW i)
 att:=fun i h=>Gj h (QW i)
 fresh:=fun i _=>rfl
section
variable {k:Nat} {R:RunD} {x:InsD} {v:UInt8}
theorem RunW.val (h:RunW k R) (r:Bool) (n:UInt8):Rds R.ev R.many (qt r n R).2:=by
 unfold qt
 split
 ·exact h.deps _
 ·exact zgC _ _
theorem RunW.emit (h:RunW k R) {kd l v m:UInt8} {d:Nat} (he:((kd=1\/kd=2)/\l.toNat<k)\/(kd=3/\l=0/\v=0)) (hd:Rds R.ev R.many d) (hk:d≠0->kd=2):RunW k (zaz R kd l v m d):=by
 have old:∀ {i:Nat},i<R.many->upd R.ev R.many ⟨0,kd,l,v,m,UInt8.ofNat R.pc,UInt8.ofNat R.many⟩ i=R.ev i:=fun {i} hi=>qz _ _ (by omega);have new:upd R.ev R.many ⟨0,kd,l,v,m,UInt8.ofNat R.pc,UInt8.ofNat R.many⟩ R.many=⟨0,kd,l,v,m,UInt8.ofNat R.pc,UInt8.ofNat R.many⟩:=zQ _ _ _;have spl:∀ {i:Nat},i<R.many+1->i=R.many\/i<R.many:=fun {i} hi=>by omega
 refine⟨fun i hi=>?_,fun j=>(((h.deps j).upd (UR _)).mono (Nat.le_succ _)),(h.ctl.upd (UR _)).mono (Nat.le_succ _),fun i hi=>?_,fun i hi=>?_,fun i hi=>?_,fun i hi=>h.fresh i (by have:R.many+1<=i:=hi;omega)⟩
 ·show zsp k i (upd R.ev R.many _ i);rcases spl hi with e | hi
  ·rw [e,new];exact⟨rfl,rfl,he⟩
  ·rw [old hi];exact h.ev i hi
 ·show Rds (upd R.ev R.many _) i (upd R.data R.many d i)/\(upd R.data R.many d i≠0->(upd R.ev R.many _ i).k=2);rcases spl hi with e | hi
  ·rw [e,zQ,new];exact⟨hd.upd (UR _),hk⟩
  ·rw [qz _ _ (by omega),old hi];exact⟨(h.data i hi).1.upd (Nat.le_of_lt hi),(h.data i hi).2⟩
 ·show Rds (upd R.ev R.many _) i (upd R.ctrl R.many R.ctl i);rcases spl hi with e | hi
  ·rw [e,zQ];exact h.ctl.upd (UR _)
  ·rw [qz _ _ (by omega)];exact (h.ctrl i hi).upd (Nat.le_of_lt hi)
 ·show R.att i=0\/∃ b,i=b+1/\R.att i=2^b/\(upd R.ev R.many _ b).k=1/\(upd R.ev R.many _ i).k=2/\(upd R.ev R.many _ b).l=(upd R.ev R.many _ i).l;rcases spl hi with e | hi
  ·exact .inl (h.fresh i (by omega))
  ·rcases h.att i hi with h0 | ⟨b,hb,h1,h2,h3,h4⟩
   ·exact .inl h0
   ·refine .inr ⟨b,hb,h1,?_⟩;rw [old hi,old (by omega)];exact⟨h2,h3,h4⟩
theorem RunW.set (h:RunW k R) {d v:UInt8} {s:Nat} (hs:Rds R.ev R.many s):RunW k (ziU R d v s):=by
 refine⟨h.ev,fun j=>?_,h.ctl,h.data,h.ctrl,h.att,h.fresh⟩;show Rds R.ev R.many (upd R.deps d.toNat s j);by_cases e:j=d.toNat
 ·rw [e,zQ];exact hs
 ·rw [qz _ _ e];exact h.deps j
structure ExchW (k:Nat) (R S:RunD) (x:InsD):Prop where
 w:RunW k S
 m:S.many=R.many+2
 k1:(S.ev R.many).k=1
 k2:(S.ev (R.many+1)).k=2
 a:S.att (R.many+1)=2^R.many
theorem RunW.exch (h:RunW k R) (hl:x.loc.toNat<k) {o v:UInt8} {d:Nat} (hd:Rds R.ev R.many d):ExchW k R (zby R x o v d) x:=by
 have h1:=h.emit (kd:=1) (l:=x.loc) (v:=o) (m:=3) (d:=0) (.inl ⟨.inl rfl,hl⟩) (zgC _ _) (fun e=>Gj rfl e);have hd1:Rds (zaz R 1 x.loc o 3 0).ev (R.many+1) d:=(hd.upd (UR _)).mono (Nat.le_succ _);have h2:=h1.emit (kd:=2) (l:=x.loc) (v:=v) (m:=3) (d:=d) (.inl ⟨.inr rfl,hl⟩) hd1 (fun _=>rfl);obtain⟨S,hS⟩:=nm (zaz (zaz R 1 x.loc o 3 0) 2 x.loc v 3 d);rw [<- hS] at h2;have sm:S.many=R.many+2:=by rw [hS];rfl
 have e1:S.ev R.many=⟨0,1,x.loc,o,3,UInt8.ofNat R.pc,UInt8.ofNat R.many⟩:=by
  rw [hS];show upd (upd R.ev R.many _) (R.many+1) _ R.many=_;rw [qz _ _ (by omega),zQ]
 have e2:S.ev (R.many+1)=⟨0,2,x.loc,v,3,UInt8.ofNat R.pc,UInt8.ofNat (R.many+1)⟩:=by
  rw [hS];show upd (upd R.ev R.many _) (R.many+1) _ (R.many+1)=_;rw [zQ];rfl
 have h3:RunW k { S with att:=upd S.att (R.many+1) (2^R.many) }:=by
  refine⟨h2.ev,h2.deps,h2.ctl,h2.data,h2.ctrl,fun i hi=>?_,fun i hi=>?_⟩
  ·show upd S.att (R.many+1) (2^R.many) i=0\/∃ b,i=b+1/\upd S.att (R.many+1) (2^R.many) i=2^b/\(S.ev b).k=1/\(S.ev i).k=2/\(S.ev b).l=(S.ev i).l;by_cases e:i=R.many+1
   ·rw [e,zQ];exact .inr ⟨R.many,rfl,rfl,by rw [e1],by rw [e2],by rw [e1,e2]⟩
   ·rw [qz _ _ e];exact h2.att i hi
  ·show upd S.att (R.many+1) (2^R.many) i=0;have hi:S.many<=i:=hi;rw [qz _ _ (by omega)];exact h2.fresh i hi
 have h4:=RunW.set (d:=x.dst) (v:=o) h3 (zf9 (b:=R.many) (by show R.many<S.many;omega) (by show (S.ev R.many).k=1;rw [e1]));have e5:zby R x o v d=ziU { S with att:=upd S.att (R.many+1) (2^R.many) } x.dst o (2^R.many):=by rw [hS];rfl
 rw [e5];exact⟨h4,sm,by show (S.ev R.many).k=1;rw [e1],by show (S.ev (R.many+1)).k=2;rw [e2],zQ _ _ _⟩
theorem ExchW.rd {S:RunD} (h:ExchW k R S x):Rds S.ev (R.many+1) (2^R.many):=zf9 (Qx _) h.k1
theorem RunW.fetch (h:RunW k R) (hl:x.loc.toNat<k):RunW k (zfq R x v):=by
 have h1:=RunW.exch (o:=v) (v:=v+(qt x.ar x.an R).1) (d:=(qt x.ar x.an R).2) h hl (h.val x.ar x.an);obtain⟨S,hS⟩:=nm (zby R x v (v+(qt x.ar x.an R).1) (qt x.ar x.an R).2);rw [<- hS] at h1;have e:zfq R x v={ S with data:=upd S.data (R.many+1) (S.data (R.many+1)|||S.att (R.many+1)) }:=by rw [hS];rfl
 rw [e];have hw:=h1.w;have hm:=h1.m;refine⟨hw.ev,hw.deps,hw.ctl,fun i hi=>?_,hw.ctrl,hw.att,hw.fresh⟩;show Rds S.ev i (upd S.data (R.many+1) _ i)/\(upd S.data (R.many+1) _ i≠0->(S.ev i).k=2);by_cases e:i=R.many+1
 ·rw [e,zQ,h1.a];exact⟨(hw.data _ (by omega)).1.or h1.rd,fun _=>h1.k2⟩
 ·rw [qz _ _ e];exact hw.data i hi
theorem RunW.cas (h:RunW k R) (hl:x.loc.toNat<k):RunW k (zc4 R x v):=by
 by_cases hv:v=(qt x.ar x.an R).1
 ·have h1:=RunW.exch (o:=v) (v:=(qt x.br x.bn R).1) (d:=(qt x.br x.bn R).2) h hl (h.val x.br x.bn);obtain⟨S,hS⟩:=nm (zby R x v (qt x.br x.bn R).1 (qt x.br x.bn R).2);rw [<- hS] at h1;have hw:=h1.w;have hm:=h1.m;have ha:Rds S.ev (R.many+1) (qt x.ar x.an R).2:=by
   have h2:Rds R.ev R.many (qt x.ar x.an R).2:=h.val _ _;have e1:∀ b,b<R.many->S.ev b=R.ev b:=fun b hb=>by
    rw [hS];show upd (upd R.ev R.many _) (R.many+1) _ b=_;rw [qz _ _ (by omega),qz _ _ (by omega)]
   intro b hb;obtain⟨c1,c2⟩:=h2 b hb;rw [e1 b c1];exact⟨by omega,c2⟩
  have e:zc4 R x v={ S with ctrl:=upd S.ctrl (R.many+1) (S.ctrl (R.many+1)|||(S.att (R.many+1)|||(qt x.ar x.an R).2)) }:=by
   unfold zc4;rw [Gi hv,hS]
  rw [e];clear e;refine⟨hw.ev,hw.deps,hw.ctl,hw.data,fun i hi=>?_,hw.att,hw.fresh⟩;show Rds S.ev i (upd S.ctrl (R.many+1) _ i);by_cases e:i=R.many+1
  ·rw [e,zQ,h1.a];exact (hw.ctrl _ (by omega)).or (h1.rd.or ha)
  ·rw [qz _ _ e];exact hw.ctrl i hi
 ·have e:zc4 R x v=ziU (zaz R 1 x.loc v 3 0) x.dst v (2^R.many):=by unfold zc4;rw [Gh hv]
  rw [e];have h1:=h.emit (kd:=1) (l:=x.loc) (v:=v) (m:=3) (d:=0) (.inl ⟨.inl rfl,hl⟩) (zgC _ _) (fun e=>Gj rfl e);refine RunW.set h1 (zf9 (b:=R.many) (Qx _) ?_);show (upd R.ev R.many _ R.many).k=1;rw [zQ]
theorem RunW.pc (h:RunW k R) (n:Nat):RunW k { R with pc:=n }:=⟨h.ev,h.deps,h.ctl,h.data,h.ctrl,h.att,h.fresh⟩
theorem RunW.eff (h:RunW k R) (hx:ExG x) (hl:x.op=1\/x.op=2\/x.op=4\/x.op=5\/x.op=6->x.loc.toNat<k):RunW k (zdo R x v):=by
 rcases hx with ⟨e,-⟩ | ⟨e,-⟩ | ⟨e,-⟩ | ⟨e,-⟩ | ⟨e,-⟩ | ⟨e,-⟩ | e | ⟨e,-⟩
 ·rw [zU.1 e];have h1:=h.emit (kd:=1) (l:=x.loc) (v:=v) (m:=x.mode) (d:=0) (.inl ⟨.inl rfl,hl (.inl e)⟩) (zgC _ _) (fun e=>Gj rfl e);refine RunW.set h1 (zf9 (b:=R.many) (Qx _) ?_);show (upd R.ev R.many _ R.many).k=1;rw [zQ]
 ·rw [zU.2.1 e];exact h.emit (.inl ⟨.inr rfl,hl (.inr (.inl e))⟩) (h.val _ _) (fun _=>rfl)
 ·rw [zU.2.2.1 e];exact h.set ((h.val _ _).or (h.val _ _))
 ·rw [zU.2.2.2.1 e];exact (h.exch (hl (.inr (.inr (.inl e)))) (h.val _ _)).w
 ·rw [zU.2.2.2.2.1 e];exact h.fetch (hl (.inr (.inr (.inr (.inl e)))))
 ·rw [zU.2.2.2.2.2.1 e];exact h.cas (hl (.inr (.inr (.inr (.inr e)))))
 ·rw [zU.2.2.2.2.2.2.1 e];exact h.emit (.inr ⟨rfl,rfl,rfl⟩) (zgC _ _) (fun e=>Gj rfl e)
 ·rw [zU.2.2.2.2.2.2.2 e];have h1:RunW k { R with ctl:=R.ctl|||((qt x.ar x.an R).2|||(qt x.br x.bn R).2) }:=⟨h.ev,h.deps,h.ctl.or ((h.val _ _).or (h.val _ _)),h.data,h.ctrl,h.att,h.fresh⟩;unfold zbY;dsimp only
  split
  ·exact h1.pc _
  ·exact h1
theorem RunW.exec (h:RunW k R) (hx:ExG x) (hl:x.op=1\/x.op=2\/x.op=4\/x.op=5\/x.op=6->x.loc.toNat<k):RunW k (qh R x v):=RunW.pc (h.eff hx hl) _
end
def ThW (k:Nat) (l:List InsD):Prop:=∀ x∈l,ExG x/\(x.op=1\/x.op=2\/x.op=4\/x.op=5\/x.op=6->x.loc.toNat<k)
theorem zoX {l:List InsD} {k:Nat} (h:qy l k=true):ThW k l:=fun x hx=>by
 unfold qy at h;rw [bAT,dE,Qg] at h;obtain⟨i,hi,rfl⟩:=Kg hx;have:=h.2 i (Uj.2 hi);rw [gE hi] at this;exact⟨(zjk this).1,(zjk this).2.2⟩
theorem RunW.go {k:Nat} {l:List InsD} (ht:ThW k l):∀ (n:Nat) (S:RunD),RunW k S->RunW k (goR l n S)
 | 0,S,h=>h
 | n+1,S,h=>by
  show RunW k (match l[S.pc]? with | none=>S | some x=>if zbK x then S else goR l n (qh S x 0))
  cases hg:l[S.pc]? with
  | none=>exact h
  | some x =>
   dsimp only
   split
   ·exact h
   ·obtain⟨a,b⟩:=ht x (JY hg);exact RunW.go ht n _ (h.exec a b)
theorem RunW.spread {k:Nat} {l:List InsD} (ht:ThW k l) (dom:List UInt8):∀ (n:Nat) (S:RunD),RunW k S->∀ R∈z8 l dom n S,RunW k R
 | 0,S,h,R,hR=>by
  have hR:R∈[goR l l.length S]:=hR;rw [Ky] at hR;rw [hR];exact RunW.go ht _ _ h
 | n+1,S,h,R,hR=>by
  have hT:=RunW.go ht l.length S h;have hR:R∈(match l[(goR l l.length S).pc]? with | none=>[goR l l.length S] | some x=>dom.flatMap fun v=>z8 l dom n (qh (goR l l.length S) x v)):=hR
  cases hg:l[(goR l l.length S).pc]? with
  | none =>
   rw [hg] at hR;have hR:=Ky.1 hR;rw [hR];exact hT
  | some x =>
   rw [hg] at hR;obtain⟨v,-,hv⟩:=List.mem_flatMap.1 hR;obtain⟨a,b⟩:=ht x (JY hg);exact RunW.spread ht dom n _ (hT.exec a b) R hv
theorem zp3 {l:List InsD} {k:Nat} (h:qy l k=true) (dom:List UInt8):∀ R∈qA l dom,RunW k R/\R.many<=24:=fun R hR =>
 ⟨RunW.spread (zoX h) dom _ _ (zsR k) R hR,(zeT (ziR h) dom R hR).1⟩
structure PathW (k:Nat) (P:PathD):Prop where
 n:P.ev.length<=24
 ev:∀ i e,P.ev[i]?=some e->zsp k i e
 dt:∀ p∈P.data,∃ a b,P.ev[p.1]?=some a/\P.ev[p.2]?=some b/\p.1<p.2/\a.k=1/\b.k=2
 ct:∀ p∈P.ctrl,∃ a b,P.ev[p.1]?=some a/\P.ev[p.2]?=some b/\p.1<p.2/\a.k=1
 rm:∀ p∈P.rmw,∃ a b,P.ev[p.1]?=some a/\P.ev[p.2]?=some b/\p.2=p.1+1/\a.k=1/\b.k=2/\a.l=b.l
 dtl:P.data.length<=100000
 ctl:P.ctrl.length<=100000
 rml:P.rmw.length<=100000
theorem zed {f:Nat->Nat} {n:Nat} {p:Nat×Nat} (h:p∈zcc f n):p.2<n/\(f p.2).testBit p.1=true:=by
 unfold zcc at h;obtain⟨i,hi,h⟩:=List.mem_flatMap.1 h;obtain⟨a,ha,rfl⟩:=UF.1 h;exact⟨Uj.1 hi,(qM.1 ha).2⟩
theorem zfi (f:Nat->Nat) {n:Nat} (h:n<=24):(zcc f n).length<=100000:=by
 rw [<- zdE];have:=zfh ((List.range n).map f) 0;rw [QI,KS] at this;omega
theorem zcP {R:RunD} {i:Nat} (h:i<R.many):(j4 R).ev[i]?=some (R.ev i):=by
 show ((List.range R.many).map R.ev)[i]?=_;rw [KR,Kf h];rfl
theorem zs4 {k:Nat} {R:RunD} (h:RunW k R) (hm:R.many<=24):PathW k (j4 R):=by
 have hl:(j4 R).ev.length=R.many:=by show ((List.range R.many).map R.ev).length=_;rw [QI,KS]
 refine⟨by omega,fun i e he=>?_,fun p hp=>?_,fun p hp=>?_,fun p hp=>?_,zfi _ hm,zfi _ hm,zfi _ hm⟩
 ·have hi:i<R.many:=by rw [<- hl];exact (Jr.1 he).1
  rw [zcP hi] at he;rw [<- Ua he];exact h.ev i hi
 ·obtain⟨h1,h2⟩:=zed hp;obtain⟨h3,h4⟩:=h.data _ h1;obtain⟨h5,h6⟩:=h3 _ h2;exact⟨_,_,zcP (by omega),zcP h1,h5,h6,h4 (fun e=>by rw [e] at h2;simp at h2)⟩
 ·obtain⟨h1,h2⟩:=zed hp;obtain⟨h5,h6⟩:=h.ctrl _ h1 _ h2;exact⟨_,_,zcP (by omega),zcP h1,h5,h6⟩
 ·obtain⟨h1,h2⟩:=zed hp;rcases h.att _ h1 with e | ⟨b,e1,e2,e3,e4,e5⟩
  ·rw [e] at h2;simp at h2
  ·rw [e2,Km] at h2;have e:b=p.1:=dT h2;subst e;exact⟨_,_,zcP (by omega),zcP h1,e1,e3,e4,e5⟩
theorem PathW.b {k:Nat} {P:PathD} (h:PathW k P):PathB k P:=by
 have lt:∀ {i:Nat} {e:Ev},P.ev[i]?=some e->i<P.ev.length:=fun {i e} he=>(Jr.1 he).1;refine⟨h.n,fun e he hk=>?_,fun p hp=>?_,fun p hp=>?_,fun p hp=>?_,h.dtl,h.ctl,h.rml⟩
 ·obtain⟨i,hi,rfl⟩:=Kg he;rcases (h.ev i _ (gE hi)).2.2 with h1 | ⟨h1,_⟩
  ·exact h1.2
  ·rw [h1] at hk;rcases hk with hk | hk <;> exact Gj hk (by decide)
 ·obtain⟨a,b,h1,h2,_⟩:=h.dt p hp;exact⟨lt h1,lt h2⟩
 ·obtain⟨a,b,h1,h2,_⟩:=h.ct p hp;exact⟨lt h1,lt h2⟩
 ·obtain⟨a,b,h1,h2,_⟩:=h.rm p hp;exact⟨lt h1,lt h2⟩
def feF:InsD:=⟨7,0,0,false,0,false,0,0,3,0⟩
def qm (xs:List InsD):List InsD:=xs.flatMap fun x=>[feF,x]
theorem zdL:∀ xs:List InsD,(qm xs).length=2*xs.length
 | []=>rfl
 | x::xs=>by
  show (feF::x::qm xs).length=_;rw [Qp,Qp,Qp,zdL xs];omega
theorem zhn:∀ (xs:List InsD) (i:Nat),i<xs.length->(qm xs)[2*i]?=some feF
 | [],i,h=>by cases h
 | x::xs,0,_=>rfl
 | x::xs,i+1,h=>by
  show (feF::x::qm xs)[2*(i+1)]?=_;rw [show 2*(i+1)=2*i+1+1 by omega,Jv,Jv];exact zhn xs i (by simpa using h)
theorem zix:∀ (xs:List InsD) (i:Nat),(qm xs)[2*i+1]?=xs[i]?
 | [],i=>by simp [qm]
 | x::xs,0=>rfl
 | x::xs,i+1=>by
  show (feF::x::qm xs)[2*(i+1)+1]?=_;rw [show 2*(i+1)+1=2*i+1+1+1 by omega,Jv,Jv,Jv];exact zix xs i
def FncE (R:RunD):Prop:=∀ i j,i<j->j<R.many->(R.ev i).k≠3->(R.ev j).k≠3->(∃ f,i<f/\f<j/\(R.ev f).k=3/\(R.ev f).m=3)\/((R.att j).testBit i=true/\(R.ev i).m=3)
def zll (R:RunD):Prop:=∀ i,i<R.many->(R.ev i).k≠3->∃ f,i<f/\f<R.many/\(R.ev f).k=3/\(R.ev f).m=3
structure FncR (R:RunD):Prop where
 e:FncE R
 odd:R.pc%2=1->zll R
theorem zuc:FncR zi0:=⟨fun i j _ h=>Gj h (QW _),fun h=>by cases h⟩
section
variable {R S:RunD}
theorem FncE.snoc (h:FncE R) {e:Ev} (hm:S.many=R.many+1) (hev:∀ i,S.ev i=if i=R.many then e else R.ev i) (hat:∀ i,i<R.many->S.att i=R.att i) (he:e.k=3\/zll R):FncE S:=fun i j hij hj hki hkj=>by
 rw [hm] at hj;rw [hev i,Gh (by omega)] at hki ⊢;rw [hev j] at hkj;by_cases hjm:j=R.many
 ·rw [Gi hjm] at hkj;rcases he with he | he
  ·exact Gj he hkj
  ·obtain⟨f,h1,h2,h3,h4⟩:=he i (by omega) hki;exact .inl ⟨f,h1,by omega,by rw [hev f,Gh (by omega)];exact h3,by rw [hev f,Gh (by omega)];exact h4⟩
 ·rw [Gh hjm] at hkj;rcases h i j hij (by omega) hki hkj with ⟨f,h1,h2,h3,h4⟩ | ⟨h1,h2⟩
  ·exact .inl ⟨f,h1,h2,by rw [hev f,Gh (by omega)];exact h3,by rw [hev f,Gh (by omega)];exact h4⟩
  ·exact .inr ⟨by rw [hat j (by omega)];exact h1,h2⟩
theorem zrR (R:RunD) (k l v m:UInt8) (d:Nat):∀ i,(zaz R k l v m d).ev i=if i=R.many then ⟨0,k,l,v,m,UInt8.ofNat R.pc,UInt8.ofNat R.many⟩ else R.ev i:=fun i=>rfl
theorem FncE.emit (h:FncE R) {k l v m:UInt8} {d:Nat} (he:k=3\/zll R):FncE (zaz R k l v m d):=h.snoc rfl (zrR R k l v m d) (fun _ _=>rfl) he
theorem FncE.exch (h:FncE R) (hA:zll R) {x:InsD} {o v:UInt8} {d:Nat}:FncE (zby R x o v d):=fun i j hij hj hki hkj=>by
 obtain⟨e1,he1⟩:∃ e:Ev,e=⟨0,1,x.loc,o,3,UInt8.ofNat R.pc,UInt8.ofNat R.many⟩:=⟨_,rfl⟩;obtain⟨e2,he2⟩:∃ e:Ev,e=⟨0,2,x.loc,v,3,UInt8.ofNat R.pc,UInt8.ofNat (R.many+1)⟩:=⟨_,rfl⟩;have hm:(zby R x o v d).many=R.many+2:=rfl;have hev:∀ i,(zby R x o v d).ev i=if i=R.many+1 then e2 else if i=R.many then e1 else R.ev i:=fun i=>by rw [he1,he2];rfl
 have hat:∀ i,(zby R x o v d).att i=if i=R.many+1 then 2^R.many else R.att i:=fun i=>rfl
 rw [hm] at hj;by_cases hjm:j<R.many
 ·rw [hev i,Gh (by omega),Gh (by omega)] at hki;rw [hev j,Gh (by omega),Gh (by omega)] at hkj;rcases h i j hij hjm hki hkj with ⟨f,h1,h2,h3,h4⟩ | ⟨h1,h2⟩
  ·exact .inl ⟨f,h1,h2,by rw [hev f,Gh (by omega),Gh (by omega)];exact h3,by rw [hev f,Gh (by omega),Gh (by omega)];exact h4⟩
  ·exact .inr ⟨by rw [hat j,Gh (by omega)];exact h1,by rw [hev i,Gh (by omega),Gh (by omega)];exact h2⟩
 ·by_cases him:i<R.many
  ·rw [hev i,Gh (by omega),Gh (by omega)] at hki;obtain⟨f,h1,h2,h3,h4⟩:=hA i him hki;exact .inl ⟨f,h1,by omega,by rw [hev f,Gh (by omega),Gh (by omega)];exact h3,by rw [hev f,Gh (by omega),Gh (by omega)];exact h4⟩
  ·have hi:i=R.many:=by omega
   have hj:j=R.many+1:=by omega
   subst hi hj;refine .inr ⟨?_,?_⟩
   ·rw [hat,Gi rfl,Km];exact Un rfl
   ·rw [hev,Gh (by omega),Gi rfl,he1]
theorem FncE.same (h:FncE R) (h1:S.many=R.many) (h2:S.ev=R.ev) (h3:S.att=R.att):FncE S:=fun i j hij hj hki hkj=>by
 rw [h1] at hj;rw [h2] at hki hkj ⊢;rw [h3];exact h i j hij hj hki hkj
theorem FncE.eff (h:FncE R) (hA:zll R) {x:InsD} (hx:ExG x) (h8:x.op≠8) {v:UInt8}:FncE (zdo R x v):=by
 rcases hx with ⟨e,-⟩ | ⟨e,-⟩ | ⟨e,-⟩ | ⟨e,-⟩ | ⟨e,-⟩ | ⟨e,-⟩ | e | ⟨e,-⟩
 ·rw [zU.1 e];exact (h.emit (k:=1) (l:=x.loc) (v:=v) (m:=x.mode) (d:=0) (.inr hA)).same rfl rfl rfl
 ·rw [zU.2.1 e];exact h.emit (.inr hA)
 ·rw [zU.2.2.1 e];exact h.same rfl rfl rfl
 ·rw [zU.2.2.2.1 e];exact h.exch hA
 ·rw [zU.2.2.2.2.1 e];exact (h.exch hA (x:=x) (o:=v) (v:=v+(qt x.ar x.an R).1) (d:=(qt x.ar x.an R).2)).same rfl rfl rfl
 ·rw [zU.2.2.2.2.2.1 e];unfold zc4
  split
  ·exact (h.exch hA (x:=x) (o:=v) (v:=(qt x.br x.bn R).1) (d:=(qt x.br x.bn R).2)).same rfl rfl rfl
  ·exact (h.emit (k:=1) (l:=x.loc) (v:=v) (m:=3) (d:=0) (.inr hA)).same rfl rfl rfl
 ·rw [zU.2.2.2.2.2.2.1 e];exact h.emit (.inl rfl)
 ·exact Gj e h8
theorem ztt {x:InsD} (hx:ExG x) (h8:x.op≠8) {v:UInt8}:(zdo R x v).pc=R.pc:=by
 rcases hx with ⟨e,-⟩ | ⟨e,-⟩ | ⟨e,-⟩ | ⟨e,-⟩ | ⟨e,-⟩ | ⟨e,-⟩ | e | ⟨e,-⟩
 ·rw [zU.1 e];rfl
 ·rw [zU.2.1 e];rfl
 ·rw [zU.2.2.1 e];rfl
 ·rw [zU.2.2.2.1 e];rfl
 ·rw [zU.2.2.2.2.1 e];rfl
 ·rw [zU.2.2.2.2.2.1 e];unfold zc4
  split <;> rfl
 ·rw [zU.2.2.2.2.2.2.1 e];rfl
 ·exact Gj e h8
variable {xs:List InsD}
theorem FncR.exec (h:FncR R) (hxs:∀ x∈xs,ExG x/\x.op≠8) {x:InsD} (hg:(qm xs)[R.pc]?=some x) {v:UInt8}:FncR (qh R x v):=by
 have hlt:=(Jr.1 hg).1;rw [zdL] at hlt;rcases Nat.mod_two_eq_zero_or_one R.pc with hpar | hpar
 ·
  obtain⟨i,hi⟩:∃ i,R.pc=2*i:=⟨R.pc/2,by omega⟩;rw [hi,zhn xs i (by omega)] at hg;have hx:=Ua hg;subst hx;have e:qh R feF v={ zaz R 3 0 0 3 0 with pc:=R.pc+1 }:=rfl;rw [e];refine⟨(h.e.emit (k:=3) (l:=0) (v:=0) (m:=3) (d:=0) (.inl rfl)).same rfl rfl rfl,fun _ j hj hk=>?_⟩;have hj:j<R.many+1:=hj;have hk:(if j=R.many then (⟨0,3,0,0,3,UInt8.ofNat R.pc,UInt8.ofNat R.many⟩:Ev) else R.ev j).k≠3:=hk;have hjm:j≠R.many:=fun e2=>by rw [Gi e2] at hk;exact hk rfl
  refine⟨R.many,by omega,Qx _,?_,?_⟩
  ·show (if R.many=R.many then (⟨0,3,0,0,3,UInt8.ofNat R.pc,UInt8.ofNat R.many⟩:Ev) else R.ev R.many).k=3;rw [Gi rfl]
  ·show (if R.many=R.many then (⟨0,3,0,0,3,UInt8.ofNat R.pc,UInt8.ofNat R.many⟩:Ev) else R.ev R.many).m=3;rw [Gi rfl]
 ·obtain⟨i,hi⟩:∃ i,R.pc=2*i+1:=⟨R.pc/2,by omega⟩;rw [hi,zix] at hg;obtain⟨hx,h8⟩:=hxs x (JY hg);have hpc:(qh R x v).pc=R.pc+1:=by
   show (zdo R x v).pc+1=_;rw [ztt hx h8]
  refine⟨(h.e.eff (h.odd hpar) hx h8).same rfl rfl rfl,fun ho=>?_⟩;rw [hpc] at ho;omega
theorem FncR.go (hxs:∀ x∈xs,ExG x/\x.op≠8):∀ (n:Nat) {S:RunD},FncR S->FncR (goR (qm xs) n S)
 | 0,S,h=>h
 | n+1,S,h=>by
  show FncR (match (qm xs)[S.pc]? with | none=>S | some x=>if zbK x then S else goR (qm xs) n (qh S x 0))
  cases hg:(qm xs)[S.pc]? with
  | none=>exact h
  | some x =>
   dsimp only
   split
   ·exact h
   ·exact FncR.go hxs n (h.exec hxs hg)
theorem FncR.spread (hxs:∀ x∈xs,ExG x/\x.op≠8) (dom:List UInt8):∀ (n:Nat) {S:RunD},FncR S->∀ T∈z8 (qm xs) dom n S,FncR T
 | 0,S,h,T,hT=>by
  have hT:T∈[goR (qm xs) (qm xs).length S]:=hT;rw [Ky] at hT;rw [hT];exact h.go hxs _
 | n+1,S,h,T,hT=>by
  have hS:=FncR.go hxs (qm xs).length h;have hT:T∈(match (qm xs)[(goR (qm xs) (qm xs).length S).pc]? with | none=>[goR (qm xs) (qm xs).length S] | some x=>dom.flatMap fun v=>z8 (qm xs) dom n (qh (goR (qm xs) (qm xs).length S) x v)):=hT
  cases hg:(qm xs)[(goR (qm xs) (qm xs).length S).pc]? with
  | none =>
   rw [hg] at hT;rw [Ky.1 hT];exact hS
  | some x =>
   rw [hg] at hT;obtain⟨v,-,hv⟩:=List.mem_flatMap.1 hT;exact FncR.spread hxs dom n (hS.exec hxs hg) T hv
theorem zl4 (hxs:∀ x∈xs,ExG x/\x.op≠8) (dom:List UInt8):∀ T∈qA (qm xs) dom,FncE T:=fun T hT=>(FncR.spread hxs dom _ zuc T hT).e
end
end Go.Proofs.YtkpaomeeknegpaaGreatDoor
namespace Go.Sei
theorem zni:∀ (rs:List Nat) (j:Nat),(∀ n∈rs,n≠0)->∀ (i n d:Nat),rs[i]?=some n->(zau rs j)[i]?=some d->d<n
 | [],_,_,_,_,_,h,_=>by simp at h
 | m::rs,j,h0,0,n,d,h,hd=>by
  have h:m=n:=by simpa using h
  have hd:j%m=d:=by simpa [zau] using hd
  subst h;subst hd;exact UZ _ (KE (h0 m (by simp)))
 | m::rs,j,h0,i+1,n,d,h,hd=>zni rs (j/m) (fun n hn=>h0 n (by simp [hn])) i n d (by simpa using h) (by simpa [zau] using hd)
theorem za1 {sizes ds:List Nat} (h:ds∈qa sizes):ds.length=sizes.length/\∀ (i n d:Nat),sizes[i]?=some n->ds[i]?=some d->d<n:=by
 unfold qa at h;obtain⟨j,hj,rfl⟩:=UF.1 h;have hj:=Uj.1 hj;have h0:∀ n∈sizes.reverse,n≠0:=fun n hn e=>by
  subst e;rw [zea hn] at hj;omega
 have hl:(zau sizes.reverse j).length=sizes.length:=by rw [zeW,Kh]
 refine⟨by rw [Kh,hl],fun i n d hn hd=>?_⟩;have hi:i<sizes.length:=(Jr.1 hn).1;have e1:=JK (l:=sizes.reverse) (i:=i) (by simpa using hi);rw [Ka,hn] at e1;have e2:=JK (l:=zau sizes.reverse j) (i:=i) (by omega);rw [hd,hl] at e2;rw [Kh] at e1;exact zni _ _ h0 _ n d e1.symm e2.symm
theorem zj6:∀ (rs:List (Nat×List Nat)) (r:Nat) (s:List Nat) (ds:List Nat) (f:Nat->Nat),rfF (rs++[(r,s)]) ds f=upd (rfF rs ds f) (s.getD (ds.getD rs.length 0) 0) (rfF rs ds f (s.getD (ds.getD rs.length 0) 0)|||2^r)
 | [],r,s,ds,f=>by
  have:ds.getD 0 0=ds.headD 0:=by cases ds <;> rfl
  show upd f (s.getD (ds.headD 0) 0) _=_;rw [<- this];rfl
 | (r',s')::rs,r,s,ds,f=>by
  have e:ds.getD (rs.length+1) 0=ds.tail.getD rs.length 0:=by
   cases ds with
   | nil=>simp
   | cons a ds=>simp
  show rfF (rs++[(r,s)]) ds.tail _=_;rw [zj6 rs r s ds.tail];show _=upd (rfF rs ds.tail _) (s.getD (ds.getD (rs.length+1) 0) 0) (rfF rs ds.tail _ (s.getD (ds.getD (rs.length+1) 0) 0)|||2^r);rw [e]
abbrev zd1 (ev:List Ev) (rk:List Nat):UInt8:=(ev.getD (rk.getLastD 0) ev0).v
theorem zk2 (ev:List Ev):∀ (Rs:List (List (List Nat))) (R:List (List Nat)) (l:Nat) (ds:List Nat) (p:RelD×(Nat->UInt8)),
  coG ev l (Rs++[R]) ds p=(zas (R.getD (ds.getD Rs.length 0) []) (coG ev l Rs ds p).1,upd (coG ev l Rs ds p).2 (l+Rs.length) (zd1 ev (R.getD (ds.getD Rs.length 0) [])))
 | [],R,l,ds,p=>by
  have:ds.getD 0 0=ds.headD 0:=by cases ds <;> rfl
  show (zas (R.getD (ds.headD 0) []) p.1,upd p.2 l _)=_;rw [<- this];rfl
 | R'::Rs,R,l,ds,p=>by
  have e:ds.getD (Rs.length+1) 0=ds.tail.getD Rs.length 0:=by
   cases ds with
   | nil=>simp
   | cons a ds=>simp
  show coG ev (l+1) (Rs++[R]) ds.tail _=_;rw [zk2 ev Rs R (l+1) ds.tail];show _=(zas (R.getD (ds.getD (Rs.length+1) 0) []) _,upd _ (l+(Rs.length+1)) (zd1 ev (R.getD (ds.getD (Rs.length+1) 0) [])));rw [e,show l+1+Rs.length=l+(Rs.length+1) by omega];rfl
def zjK (r:RelD):Bool:=(List.range 48).all fun i=>decide (r.to i<2^64)
structure MixB (m:MixD):Prop where
 ev:m.base.ev.length<=48
 rl:m.rs.length<=48
 wl:m.wr.length<=6
 rf:∀ i,i<48->m.base.rf.to i<2^64
 co:∀ i,i<48->m.base.co.to i<2^64
 rs:∀ r∈m.rs,r.1<48/\r.2.length<=1000/\∀ s∈r.2,s<48
 wr:∀ w∈m.wr,w.length<=48/\(zM w).length<=10000/\∀ k∈zM w,k≠[]/\k.length<=48/\∀ a∈k,a<m.base.ev.length
theorem zgk (m:MixD) (ds:List Nat):(zw m ds).ev=m.base.ev:=rfl
def jt (a b : RelD) : Bool := decide (a.n = b.n) && (List.range 48).all fun i => decide (a.to i = b.to i)
def qG (ev : List Ev) : Nat := (ev.takeWhile fun e => decide (e.th = -1)).length
def zbS (locs : Nat) : Nat → List Ev → Int → Nat → Bool
  | _, [], _, _ => true
  | i, e :: es, t, n =>
    if i < locs then (if e = ⟨-1, 2, UInt8.ofNat i, e.v, 0, 0, 0⟩ then zbS locs (i + 1) es t n else false)
    else if e.th < t ∨ 4 ≤ e.th then false
    else
      let t' := if t < e.th then e.th else t
      let n' := if t < e.th then 0 else n
      if e.p.toNat = n' then
        (if e.k = 1 ∨ e.k = 2 then (if e.l.toNat < locs then zbS locs (i + 1) es t' (n' + 1) else false)
         else if e.k = 3 then (if e.l = 0 ∧ e.v = 0 then zbS locs (i + 1) es t' (n' + 1) else false)
         else false)
      else false
def jr (ev : List Ev) (locs : Nat) : Bool := zbS locs 0 ev 0 0
def evA (x : ExD) (i : Nat) : Ev := x.ev.getD i ev0
def zb1 (x : ExD) (s : Nat) (e : Ev) : Bool :=
  if e.k = 1 then (if s = 0 then false else
    (if s = 2 ^ ctz s then decide ((evA x (ctz s)).k = 2) && (decide ((evA x (ctz s)).l = e.l) && decide ((evA x (ctz s)).v = e.v)) else false))
  else decide (s = 0)
def zaE (x : ExD) : Bool := (List.range x.ev.length).all fun i => zb1 x ((zV x.rf).to i) (evA x i)
def jg (key : Nat → Nat) : List Nat → Nat → List Nat
  | [], x => [x]
  | y :: r, x => if key y < key x then y :: jg key r x else x :: y :: r
def zc9 (key : Nat → Nat) (l : List Nat) : List Nat := (l.foldl (fun acc x => jg key acc x) []).reverse
def zbO (s : Nat) : Nat := (els s).length
def qc (x : ExD) (l : Nat) : List Nat := (List.range x.ev.length).filter fun i => decide ((evA x i).k = 2) && decide ((evA x i).l.toNat = l)
def z5 (x : ExD) (l : Nat) : List Nat := zc9 (fun i => zbO (x.co.to i)) (qc x l)
def zhW (x : ExD) : Nat → Nat → RelD × (Nat → UInt8) → Option (RelD × (Nat → UInt8))
  | 0, _, p => some p
  | n + 1, l, p => if (z5 x l).headD 48 = l then zhW x n (l + 1) (zas (z5 x l) p.1, upd p.2 l (zd1 x.ev (z5 x l))) else none
def zaG (x : ExD) (locs : Nat) : Bool := match zhW x locs 0 (⟨x.ev.length, fun _ => 0⟩, fun _ => 0) with
  | none => false
  | some p => jt p.1 x.co && (List.range 6).all fun l => decide (p.2 l = x.mem l)
def zaR (x : ExD) : Nat := (List.range x.ev.length).foldl (fun s i => if (evA x i).k = 2 then s ||| 2 ^ i else s) 0
def zbl (x : ExD) (W : Nat) : Nat → List Ev → Nat → Bool
  | _, [], _ => true
  | i, e :: es, h =>
    let d := x.dt.to i
    let c := x.ct.to i
    let r := x.rm.to i
    if d ||| c ||| r = 0 then zbl x W (i + 1) es h
    else if e.k = 1 ∧ jE (d ||| r) W = 0 ∧ jE (d ||| c ||| r) (x.po.to i) = 0 then
      (if r = 0 then zbl x W (i + 1) es h
       else if r = 2 ^ ctz r ∧ h.testBit (ctz r) = false ∧ (evA x (ctz r)).l = e.l then zbl x W (i + 1) es (h ||| r) else false)
    else false
def zaA (x : ExD) : Bool := zbl x (zaR x) 0 x.ev 0
def zaM (x : ExD) : Bool := [x.po, x.rf, x.co, x.dt, x.ct, x.rm].all fun r => decide (r.n = x.ev.length) && okR r
def jb (x : ExD) : Bool :=
  decide (x.ev.length ≤ 48) && (decide (1 ≤ qG x.ev) && (decide (qG x.ev ≤ 6) && (jr x.ev (qG x.ev) && (zaM x && (jt x.po (poR x.ev) && (zaE x && (zaG x (qG x.ev) && zaA x)))))))
end Go.Sei
namespace Go.Proofs.YtkpaomeeknegpaaGreatDoor
open Go.Vc Go.RowKit Go.Sei
structure ExV (w:Wd) (x:ExD) (q:OA):Prop where
 ev:SlR evE w q x.ev
 n:x.ev.length<=20
 po:zJ x.po.to
 rf:zJ x.rf.to
 co:zJ x.co.to
 dt:zJ x.dt.to
 ct:zJ x.ct.to
 rm:zJ x.rm.to
structure ExW (w:Wd) (x:ExD) (q:OA):Prop where
 ev:SlR evE w q x.ev
 n:x.ev.length<=48
 w20:∀ l,(qc x l).length<=20
 po:zJ x.po.to
 rf:zJ x.rf.to
 co:zJ x.co.to
 dt:zJ x.dt.to
 ct:zJ x.ct.to
 rm:zJ x.rm.to
theorem ExV.w {w:Wd} {x:ExD} {q:OA} (h:ExV w x q):ExW w x q:=by
 refine⟨h.ev,by have:=h.n;omega,fun l=>?_,h.po,h.rf,h.co,h.dt,h.ct,h.rm⟩;have h1:(qc x l).length<=x.ev.length:=by
  refine UI (JL ..) ?_;rw [KS];exact UR _
 have:=h.n;omega
theorem ExW.below {w w2:Wd} {x:ExD} {q:OA} (h:ExW w x q) (hb:Bw w w2):ExW w2 x q:=⟨h.ev.below hb,h.n,h.w20,h.po,h.rf,h.co,h.dt,h.ct,h.rm⟩
theorem ExV.below {w w2:Wd} {x:ExD} {q:OA} (h:ExV w x q) (hb:Bw w w2):ExV w2 x q:=⟨h.ev.below hb,h.n,h.po,h.rf,h.co,h.dt,h.ct,h.rm⟩
theorem zch {w:Wd} {q:OA} {l:List Ev} (h:SlR evE w q l) {i:Nat} (hi:i<l.length):∃ b o,q=some ⟨b,o,none⟩/\b<w.heap.size/\zI w ⟨b,o+i*7,none⟩ (evE.enc (l.getD i ev0)):=by
 obtain⟨b,o,hq,hb,hat⟩:=h.at hi;refine⟨b,o,hq,hb,?_⟩;rw [gDe,gE hi];exact hat i hi
theorem zuw:TyEq PG 36 false 1 1 (fun cs=>∃ x,cs=[.int .u64 x]) := .int Tryz.underlying36 (fun w=>Tryz.isAgg36 w) (jN (by kernel_rfl) (by kernel_rfl)).1 (by kernel_rfl)
theorem zt6:TyEq PG 3 false 1 1 (fun cs=>∃ x,cs=[.int .i64 x]) := .int Tryz.underlying3 (fun w=>Tryz.isAgg3 w) (jN (by kernel_rfl) (by kernel_rfl)).1 (by kernel_rfl)
theorem zt3:∃ G,TyEq PG 37 true 48 2 G/\∀ f:Nat->Nat,G (zaV f):=by
 refine⟨_,.array (m:=48) (by decide) Tryz.underlying37 (fun w=>Tryz.isAgg37 w) (jN (by kernel_rfl) (by kernel_rfl)).1 (by kernel_rfl) zuw,fun f i hi=>⟨(f i:Nat),?_⟩⟩;unfold qQ;have h:=zcL f hi;rw [US];have hl:i<(zaV f).length:=by rw [zbi];exact hi
 rw [<- JE hl,List.take_succ_cons,Uk];rw [gE hl] at h;rw [Ua h];rfl
theorem zt4:∃ G,TyEq PG 39 true 49 3 G/\∀ r:RelD,G (zf r):=by
 obtain⟨G,h1,h2⟩:=zt3;refine⟨_,.struct (uf Tryz.underlying39).1 (by kernel_rfl) (fun w=>Tryz.isAgg39 w) (jN (by kernel_rfl) (by kernel_rfl)).1 (by kernel_rfl)
  (by rw [(uf Tryz.underlying39).2];exact .cons (by decide) rfl (zt6.up 1) (.cons (by decide) rfl h1 .nil)),fun r=>?_⟩
 exact⟨⟨_,rfl⟩,by have:=h2 r.to;have e:((zf r).drop 1).take 48=zaV r.to:=JF (by rw [show (zf r).drop 1=zaV r.to from rfl,zbi];decide);rw [e];exact this,trivial⟩
theorem znZ {a b:RelD}:zf a=zf b↔jt a b=true:=by
 unfold jt;rw [bAT,dE,Qg];constructor
 ·intro h;have h1:i64 a.n=i64 b.n:=Jw h;have h2:zaV a.to=zaV b.to:=List.tail_eq_of_cons_eq h;refine⟨by injection h1,fun i hi=>Un ?_⟩;have hi:=Uj.1 hi;have h3:=zcL a.to hi;rw [h2,zcL b.to hi] at h3;have h4:=Ua h3;unfold s64 at h4;injection h4 with _ h5;omega
 ·rintro⟨h1,h2⟩;unfold zf zaV;rw [h1];congr 1;refine Ki fun i hi=>?_;rw [dT (h2 i hi)]
theorem znh (x y:Operand) (a b:RelD) (w:Wd):(do eqGuard .eql 39 x y (.agg (zf a).toArray) (.agg (zf b).toArray);binOp .eql 39 (.agg (zf a).toArray) (.agg (zf b).toArray)).run PG w = .ok (.bool (jt a b)) w:=by
 obtain⟨G,h1,h2⟩:=zt4;have:=zl8 h1 9997 rfl (by kernel_rfl) (zg a) (zg b) (h2 a) (h2 b) x y w;rw [this,zeY znZ,Bool.decide_eq_true]
theorem zuy:∃ G,TyEq PG 49 true 7 2 G/\∀ e:Ev,G (evE.enc e):=by
 refine⟨_,.struct (uf Tryz.underlying49).1 (by kernel_rfl) (fun w=>Tryz.isAgg49 w) (jN (by kernel_rfl) (by kernel_rfl)).1 (by kernel_rfl)
  (by rw [(uf Tryz.underlying49).2];exact .cons (by decide) rfl zt6 (.cons (by decide) rfl tU8 (.cons (by decide) rfl tU8 (.cons (by decide) rfl tU8 (.cons (by decide) rfl tU8 (.cons (by decide) rfl tU8 (.cons (by decide) rfl tU8 .nil))))))),fun e=>?_⟩
 exact⟨⟨_,rfl⟩,⟨_,rfl⟩,⟨_,rfl⟩,⟨_,rfl⟩,⟨_,rfl⟩,⟨_,rfl⟩,⟨_,rfl⟩,trivial⟩
theorem zon {a b:Ev}:evE.enc a=evE.enc b↔a=b:=by
 constructor
 ·intro h;obtain⟨a1,a2,a3,a4,a5,a6,a7⟩:=a;obtain⟨b1,b2,b3,b4,b5,b6,b7⟩:=b;have h:[i64 a1,u8 a2,u8 a3,u8 a4,u8 a5,u8 a6,u8 a7]=[i64 b1,u8 b2,u8 b3,u8 b4,u8 b5,u8 b6,u8 b7]:=h;simp only [QG,Gc,u8,Value.int.injEq,true_and,qq] at h;obtain⟨h1,rfl,rfl,rfl,rfl,rfl,rfl⟩:=h;have h1:a1=b1:=by injection h1
  rw [h1]
 ·rintro rfl;rfl
theorem ztb (x y:Operand) (a b:Ev) (w:Wd):(do eqGuard .neq 49 x y (.agg (evE.enc a).toArray) (.agg (evE.enc b).toArray);binOp .neq 49 (.agg (evE.enc a).toArray) (.agg (evE.enc b).toArray)).run PG w = .ok (.bool (!decide (a=b))) w:=by
 obtain⟨G,h1,h2⟩:=zuy;have:=zta h1 9998 rfl (by kernel_rfl) (a:=evE.enc a) (b:=evE.enc b) rfl rfl (h2 a) (h2 b) x y w;rw [this,zeY zon]
theorem zeh:∀ (ev:List Ev) (k:Nat),(∀ j,j<k->(ev.getD j ev0).th = -1)->k<=ev.length->qG ev=k+qG (ev.drop k)
 | ev,0,_,_=>by rw [Uh,UM]
 | [],k+1,_,h=>by simp at h
 | e::ev,k+1,hj,h=>by
  have h0:e.th = -1:=hj 0 (by omega);have ih:=zeh ev k (fun j hjk=>hj (j+1) (by omega)) (by simpa using h);unfold qG at ih ⊢;rw [Kl,Gi (Un h0),Qp,ih,List.drop_succ_cons];omega
section
variable {q:OA} {c:Nat} {ev:List Ev} {w:Wd}
theorem zlZ (hl:SlR evE w q ev) (hn:ev.length<=1000):CB 41 #[.slice q ev.length c] w (i64 (qG ev:Nat)):=by
 refine zF 19 [.slice q ev.length c] Tryz.func41 ?_;refine⟨Nat,fun k=>⟨[(0,.slice q ev.length c),(5,.slice q ev.length c),(6,i64 ev.length),(7,i64 (k:Nat))],[]⟩,fun k X=>k<=ev.length/\(∀ j,j<k->(ev.getD j ev0).th = -1)/\Bw w X,fun k=>ev.length-k,0,(cvE rfl rfl),⟨UU _,fun j h=>by omega,UW _ _⟩,?_⟩;rintro k X ⟨hk,hj,hbX⟩;dsimp only;have hXs:=hbX.size;refine biE (fun hc=>?_) fun hc=>?_
 ·have hc:(k:Int)<(ev.length:Int):=dT hc;have hkl:k<ev.length:=by omega
  obtain⟨b,o,rfl,hb,hat⟩:=zch (hl.below hbX) hkl;obtain⟨e,he⟩:=nm (ev.getD k ev0);rw [<- he] at hat;refine⟨k,rfl,hkl,evE.enc e,rfl,hat,hb,zo (X:=X) (v := .agg (evE.enc e).toArray) k49 rfl rfl (Qg.2 fun u hu=>evE.one e u hu) fun Y hbY fY sY=>?_⟩;have fY:Y.heap[X.heap.size]?=some (.cells (evE.enc e).toArray 49 (0,0)):=fY;refine⟨i64 e.th,zc (za fY) (i:=0) rfl,?_⟩;have hbY2:=hbX.trans (hbY.mono hXs);refine biE (fun h=>?_) fun h=>?_
  ·have h:(!decide (e.th = -1))=true:=h;have h:¬ e.th = -1:=by simpa using h
   refine⟨?_,hbY2⟩;have h2:=zeh ev k hj hk;have h3:qG (ev.drop k)=0:=by
    unfold qG;have h4:ev[k]=e:=(by rw [he,gDe,gE hkl];rfl);rw [<- JE hkl,Kl,h4,Gh (by simpa using h)];rfl
   rw [h3] at h2;exact ri (by omega)
  ·have h:(!decide (e.th = -1))=false:=h;have h:e.th = -1:=by simpa using h
   refine nxI (by omega) ⟨k+1,(cvE rfl rfl),⟨hkl,fun j hjk=>?_,hbY2⟩,zdc (by omega)⟩;by_cases e2:j=k
   ·rw [e2,<- he];exact h
   ·exact hj j (by omega)
 ·have hc:¬ (k:Int)<(ev.length:Int):=dF hc;obtain rfl:k=ev.length:=by omega
  refine⟨?_,hbX⟩;have h2:=zeh ev ev.length hj (UR _);rw [Qj] at h2;exact ri (by rw [h2];show ((ev.length:Nat):Int)=((ev.length+0:Nat):Int);rfl)
theorem zqn {i:Nat} {v:UInt8}:zd2 (zi6 [(0,1,false),(1,1,false),(2,1,false),(3,1,false),(4,1,false),(5,1,false),(6,1,false)]) (evE.enc ev0) [(0,i64 (-1)),(1,u8 2),(2,u8 (UInt8.ofNat i)),(3,u8 v)]=some (evE.enc ⟨-1,2,UInt8.ofNat i,v,0,0,0⟩):=rfl
theorem zhV {locs:Nat} (hl:SlR evE w q ev) (hn:ev.length<=1000) (hlo:locs<=1000):CB 42 #[.slice q ev.length c,i64 locs] w (.bool (jr ev locs)):=by
 refine zF 69 [.slice q ev.length c,i64 locs] Tryz.func42 ?_;refine⟨Nat×Int×Nat,fun s=>⟨[(1,i64 locs),(5,i64 s.2.1),(6,i64 (s.2.2:Nat)),(9,.slice q ev.length c),(10,i64 ev.length),(11,i64 (s.1:Nat))],[]⟩,fun s X=>s.1<=ev.length/\s.2.2<=s.1/\zbS locs s.1 (ev.drop s.1) s.2.1 s.2.2=jr ev locs/\Bw w X,fun s=>ev.length-s.1,(0,0,0),(cvE rfl rfl),⟨UU _,UR _,rfl,UW _ _⟩,?_⟩;rintro⟨k,t,m⟩ X ⟨hk,hm,hgo,hbX⟩;dsimp only at hk hm hgo ⊢;have hXs:=hbX.size;refine biE (fun hc=>?_) fun hc=>?_
 ·have hc:(k:Int)<(ev.length:Int):=dT hc;have hkl:k<ev.length:=by omega
  obtain⟨b,o,rfl,hb,hat⟩:=zch (hl.below hbX) hkl;obtain⟨e,he⟩:=nm (ev.getD k ev0);rw [<- he] at hat;have hdr:ev.drop k=e::ev.drop (k+1):=by
   rw [<- JE hkl,he,gDe,gE hkl];rfl
  rw [hdr] at hgo;unfold zbS at hgo;refine⟨k,rfl,hkl,evE.enc e,rfl,hat,hb,zo (X:=X) (v := .agg (evE.enc e).toArray) k49 rfl rfl (Qg.2 fun u hu=>evE.one e u hu) fun Y hbY fY sY=>?_⟩;have fY:Y.heap[X.heap.size]?=some (.cells (evE.enc e).toArray 49 (0,0)):=fY;have hbY2:=hbX.trans (hbY.mono hXs);have ld:∀ {i:Nat} {v:Value},(evE.enc e)[i]?=some v->Y.cell? ⟨X.heap.size,0+i,none⟩=some v:=fun h=>zc (za fY) h;have no:jr ev locs=false->(Ending.returned (.bool false)=Ending.returned (.bool (jr ev locs))/\Bw w Y):=fun h=>⟨rb h.symm,hbY2⟩;refine biE (fun h=>?_) fun h=>?_
  ·have h:(k:Int)<(locs:Int):=dT h;rw [Gi (by omega:k<locs)] at hgo;refine⟨evE.enc e,rfl,za fY,hlt fY,_,w8N k,u8 e.v,ld (i:=3) rfl,evE.enc ⟨-1,2,UInt8.ofNat k,e.v,0,0,0⟩,zqn,_,fun w=>ztb _ _ e _ w,biE (fun h2=>?_) fun h2=>?_⟩
   ·have h2:¬ e=⟨-1,2,UInt8.ofNat k,e.v,0,0,0⟩:=(by simpa using h2);rw [Gh h2] at hgo;exact no hgo.symm
   ·have h2:e=⟨-1,2,UInt8.ofNat k,e.v,0,0,0⟩:=(by simpa using h2);rw [Gi h2] at hgo;exact nxI (by omega) ⟨(k+1,t,m),(cvE rfl rfl),⟨hkl,by show m<=k+1;omega,hgo,hbY2⟩,zdc (by omega)⟩
  ·have h:¬ (k:Int)<(locs:Int):=dF h;rw [Gh (by omega:¬ k<locs)] at hgo;refine⟨i64 e.th,ld (i:=0) rfl,biE (fun h1=>?_) fun h1=>?_⟩
   ·have h1:e.th<t:=dT h1;refine brT ?_;rw [Gi (.inl h1)] at hgo;exact no hgo.symm
   have h1:¬ e.th<t:=dF h1;refine⟨i64 e.th,ld (i:=0) rfl,biE (fun h2=>?_) fun h2=>?_⟩
   ·have h2:4<=e.th:=dT h2;rw [Gi (.inr h2)] at hgo;exact no hgo.symm
   have h2:¬ 4<=e.th:=dF h2;rw [Gh (by rintro (h | h);exact h1 h;exact h2 h)] at hgo;refine⟨i64 e.th,ld (i:=0) rfl,biE (fun h9=>?_) fun h9=>?_⟩
   ·have h9:t<e.th:=dT h9;dsimp only at hgo;rw [Gi h9,Gi h9] at hgo;refine⟨i64 e.th,ld (i:=0) rfl,u8 e.p,ld (i:=6) rfl,(e.p.toNat:Int),qS _,biE (fun h3=>?_) fun h3=>?_⟩
    ·have h3:¬ e.p.toNat=0:=by
      have h3:(!decide ((e.p.toNat:Int)=(0:Nat)))=true:=h3;simpa using h3
     rw [Gh h3] at hgo;exact no hgo.symm
    have h3:e.p.toNat=0:=by
     have h3:(!decide ((e.p.toNat:Int)=(0:Nat)))=false:=h3;simpa using h3
    rw [Gi h3] at hgo;refine⟨((0+1:Nat):Int),(ze (by omega)).trans (by omega),u8 e.k,ld (i:=1) rfl,biE (fun h4=>?_) fun h4=>?_⟩
    ·refine brE h4 ?_;have h4:e.k=1:=qq.1 (dT h4);rw [Gi (.inl h4)] at hgo;refine⟨u8 e.l,ld (i:=2) rfl,(e.l.toNat:Int),qS _,biE (fun h5=>?_) fun h5=>?_⟩
     ·have h5:(locs:Int)<=(e.l.toNat:Int):=dT h5;rw [Gh (by omega)] at hgo;exact no hgo.symm
     ·have h5:¬ (locs:Int)<=(e.l.toNat:Int):=dF h5;rw [Gi (by omega)] at hgo;exact nxI (by omega) ⟨(k+1,e.th,0+1),(cvE rfl rfl),⟨hkl,by show 0+1<=k+1;omega,hgo,hbY2⟩,zdc (by omega)⟩
    have h4:¬ e.k=1:=fun e2=>(dF h4) (by rw [e2];rfl);refine biE (fun h5=>?_) fun h5=>?_
    ·have h5:e.k=2:=qq.1 (dT h5);rw [Gi (.inr h5)] at hgo;refine⟨u8 e.l,ld (i:=2) rfl,(e.l.toNat:Int),qS _,biE (fun h5=>?_) fun h5=>?_⟩
     ·have h5:(locs:Int)<=(e.l.toNat:Int):=dT h5;rw [Gh (by omega)] at hgo;exact no hgo.symm
     ·have h5:¬ (locs:Int)<=(e.l.toNat:Int):=dF h5;rw [Gi (by omega)] at hgo;exact nxI (by omega) ⟨(k+1,e.th,0+1),(cvE rfl rfl),⟨hkl,by show 0+1<=k+1;omega,hgo,hbY2⟩,zdc (by omega)⟩
    have h5:¬ e.k=2:=fun e2=>(dF h5) (by rw [e2];rfl);rw [Gh (by rintro (h | h);exact h4 h;exact h5 h)] at hgo;refine biE (fun h6=>?_) fun h6=>?_
    ·have h6:e.k=3:=qq.1 (dT h6);rw [Gi h6] at hgo;refine⟨u8 e.l,ld (i:=2) rfl,biE (fun h7=>?_) fun h7=>?_⟩
     ·have h7:¬ e.l=0:=by
       have h7:(!decide ((e.l.toNat:Int)=0))=true:=h7;intro e2;rw [e2] at h7
       cases h7
      refine brT ?_;rw [Gh fun h=>h7 h.1] at hgo;exact no hgo.symm
     ·have h7:e.l=0:=by
       have h7:(!decide ((e.l.toNat:Int)=((0:UInt8).toNat:Int)))=false:=h7;exact qq.1 (by simpa using h7)
      refine⟨u8 e.v,ld (i:=3) rfl,biE (fun h8=>?_) fun h8=>?_⟩
      ·have h8:¬ e.v=0:=by
        have h8:(!decide ((e.v.toNat:Int)=0))=true:=h8;intro e2;rw [e2] at h8
        cases h8
       rw [Gh fun h=>h8 h.2] at hgo;exact no hgo.symm
      ·have h8:e.v=0:=by
        have h8:(!decide ((e.v.toNat:Int)=((0:UInt8).toNat:Int)))=false:=h8;exact qq.1 (by simpa using h8)
       rw [Gi ⟨h7,h8⟩] at hgo;exact nxI (by omega) ⟨(k+1,e.th,0+1),(cvE rfl rfl),⟨hkl,by show 0+1<=k+1;omega,hgo,hbY2⟩,zdc (by omega)⟩
    ·have h6:¬ e.k=3:=fun e2=>(dF h6) (by rw [e2];rfl);rw [Gh h6] at hgo;exact no hgo.symm
   ·have h9:¬ t<e.th:=dF h9;dsimp only at hgo;rw [Gh h9,Gh h9] at hgo;refine⟨u8 e.p,ld (i:=6) rfl,(e.p.toNat:Int),qS _,biE (fun h3=>?_) fun h3=>?_⟩
    ·have h3:¬ e.p.toNat=m:=by
      have h3:(!decide ((e.p.toNat:Int)=(m:Nat)))=true:=h3;intro e2;rw [e2] at h3;simp at h3
     rw [Gh h3] at hgo;exact no hgo.symm
    have h3:e.p.toNat=m:=by
     have h3:(!decide ((e.p.toNat:Int)=(m:Nat)))=false:=h3;have h3:(e.p.toNat:Int)=(m:Nat):=(by simpa using h3);omega
    rw [Gi h3] at hgo;refine nxI (by omega) ⟨u8 e.k,ld (i:=1) rfl,biE (fun h4=>?_) fun h4=>?_⟩
    ·refine brE h4 ?_;have h4:e.k=1:=qq.1 (dT h4);rw [Gi (.inl h4)] at hgo;refine⟨u8 e.l,ld (i:=2) rfl,(e.l.toNat:Int),qS _,biE (fun h5=>?_) fun h5=>?_⟩
     ·have h5:(locs:Int)<=(e.l.toNat:Int):=dT h5;rw [Gh (by omega)] at hgo;exact no hgo.symm
     ·have h5:¬ (locs:Int)<=(e.l.toNat:Int):=dF h5;rw [Gi (by omega)] at hgo;exact nxI (by omega) ⟨(k+1,t,m+1),(cvE rfl rfl),⟨hkl,by show m+1<=k+1;omega,hgo,hbY2⟩,zdc (by omega)⟩
    have h4:¬ e.k=1:=fun e2=>(dF h4) (by rw [e2];rfl);refine biE (fun h5=>?_) fun h5=>?_
    ·have h5:e.k=2:=qq.1 (dT h5);rw [Gi (.inr h5)] at hgo;refine⟨u8 e.l,ld (i:=2) rfl,(e.l.toNat:Int),qS _,biE (fun h5=>?_) fun h5=>?_⟩
     ·have h5:(locs:Int)<=(e.l.toNat:Int):=dT h5;rw [Gh (by omega)] at hgo;exact no hgo.symm
     ·have h5:¬ (locs:Int)<=(e.l.toNat:Int):=dF h5;rw [Gi (by omega)] at hgo;exact nxI (by omega) ⟨(k+1,t,m+1),(cvE rfl rfl),⟨hkl,by show m+1<=k+1;omega,hgo,hbY2⟩,zdc (by omega)⟩
    have h5:¬ e.k=2:=fun e2=>(dF h5) (by rw [e2];rfl);rw [Gh (by rintro (h | h);exact h4 h;exact h5 h)] at hgo;refine biE (fun h6=>?_) fun h6=>?_
    ·have h6:e.k=3:=qq.1 (dT h6);rw [Gi h6] at hgo;refine⟨u8 e.l,ld (i:=2) rfl,biE (fun h7=>?_) fun h7=>?_⟩
     ·have h7:¬ e.l=0:=by
       have h7:(!decide ((e.l.toNat:Int)=0))=true:=h7;intro e2;rw [e2] at h7
       cases h7
      refine brT ?_;rw [Gh fun h=>h7 h.1] at hgo;exact no hgo.symm
     ·have h7:e.l=0:=by
       have h7:(!decide ((e.l.toNat:Int)=((0:UInt8).toNat:Int)))=false:=h7;exact qq.1 (by simpa using h7)
      refine⟨u8 e.v,ld (i:=3) rfl,biE (fun h8=>?_) fun h8=>?_⟩
      ·have h8:¬ e.v=0:=by
        have h8:(!decide ((e.v.toNat:Int)=0))=true:=h8;intro e2;rw [e2] at h8
        cases h8
       rw [Gh fun h=>h8 h.2] at hgo;exact no hgo.symm
      ·have h8:e.v=0:=by
        have h8:(!decide ((e.v.toNat:Int)=((0:UInt8).toNat:Int)))=false:=h8;exact qq.1 (by simpa using h8)
       rw [Gi ⟨h7,h8⟩] at hgo;exact nxI (by omega) ⟨(k+1,t,m+1),(cvE rfl rfl),⟨hkl,by show m+1<=k+1;omega,hgo,hbY2⟩,zdc (by omega)⟩
    ·have h6:¬ e.k=3:=fun e2=>(dF h6) (by rw [e2];rfl);rw [Gh h6] at hgo;exact no hgo.symm
 ·have hc:¬ (k:Int)<(ev.length:Int):=dF hc;obtain rfl:k=ev.length:=by omega
  rw [Qj] at hgo;exact⟨rb hgo,hbX⟩
end
end Go.Proofs.YtkpaomeeknegpaaGreatDoor
namespace Go.Vc
open Go.RowKit
def zqF {α:Type} (P:Program) (g:Nat) (lb:List Value) (xs:List α) (W0:Wd) (Rd:Nat->Prop) (St:List α->List Value->Wd->Prop) (Gv:List Value->Nat->Prop):Prop :=
 ∀ (l:Nat) (F0:Nat->Prop) (J:List α->(Nat->Prop)->Wd->Prop) (W:Wd),W0.heap.size<=W.heap.size->(∀ k,Rd k->W.heap[k]?=W0.heap[k]?)->(∀ k,Rd k->¬ F0 k) ->
  JG W.heap.size (fun _=>False) J ->
  (∀ pre x vs F W1,J pre F W1->St (pre++[x]) vs W1->(∀ k,Gv vs k->W.heap.size<=k)->(pre++[x]) <+: xs->YieldR P l vs.toArray W1 fun v W2 =>
   v = .bool true/\∃ F',J (pre++[x]) F' W2/\KeepsG (fun k=>F k\/Gv vs k) F' W1 W2) ->
  J [] F0 W ->
  Calls P g (.func (.yield l) #[] #[]::lb).toArray W fun e W'=>(∃ v,e = .returned v)/\∃ F',J xs F' W'
theorem zsZ {α:Type} {S:Sig} (hS:SigOk S) (hr:S.r=none) {f:Operand} {ps:Array Tmp} {assign body:Code} {E:Env} {w:Wd} {Q:Exit->Env->Wd->Prop}
  {gf:Nat} {lb:Array Value} (hg:opd E f=some (.func (.func gf) #[] lb)) (hok:jP S gf=true)
  {xs:List α} {W0:Wd} {Rd:Nat->Prop} {St:List α->List Value->Wd->Prop} {Gv:List Value->Nat->Prop} (hI:zqF S.P gf lb.toList xs W0 Rd St Gv) (hGv:∀ pre vs W k,St pre vs W->Gv vs k->∃ cs t fr,W.heap[k]?=some (.cells cs t fr)) (hW0:W0.heap.size<=w.heap.size) (hRd:∀ k,Rd k->k<W0.heap.size/\w.heap[k]?=W0.heap[k]?)
  (hps:∀ pre vs W,St pre vs W->vs.length=ps.size) (hpn:∀ p∈ps.toList,p<S.n)
  (F0:Nat->Prop) (J:List α->(Nat->Prop)->Wd->Prop) (hRF:∀ k,Rd k->¬ F0 k)
  (hJ:JG w.heap.size (fun _=>False) J) (h0:J [] F0 w)
  (hround:∀ (l:Nat) (pre:List α) (x:α) (vs:List Value) (F:Nat->Prop) (W:Wd),w.heap.size<=l->(pre++[x]) <+: xs->J pre F W->St (pre++[x]) vs W->(∀ k,Gv vs k->w.heap.size<=k)->¬ F l->(∃ lo,W.heap[l]?=some (.loop lo)) ->
   wpE (sr S l) assign ⟨zgx ps.toList vs E.vs,[]⟩ W fun ex E1 W1=>ex = .normal/\∃ F1,KeepsG (fun k=>F k\/Gv vs k) F1 W W1/\J pre F1 W1 /\
    ∀ o W2,W2=W1.putObj l o->J pre F1 W2->wpE (sr S l) body E1 W2 (zsG F1 J (fun _ _ _ _=>False) (pre++[x]) W2))
  (hdone:∀ D F W,w.heap.size<=D->¬ F D->J xs F W->W.heap[D]?=some (.deferred (some []))->Q .normal ⟨E.vs,{ target := .collected D,args := #[] }::E.ds⟩ W) :
  zjE S f ps assign body E w Q:=by
 intro a ha;have hcall:∀ args w,(callFunc gf args).run S.P w = .ok (.enter gf args) w:=by
  simp only [jP,bAT,UX,UY] at hok;exact fun args w=>hS.call gf hok.1.1 hok.1.2 hok.2 args w
 refine wpIn_rangeFunc ?_;intro fn hfn;have hro:(FR S.r).round=none:=hr;rw [hro];obtain⟨rec,hrec⟩:∃ rec:LoopState->Option Code->Loop,rec=fun st pe=>{ state:=st,pending:=pe,fn,tmps:=a.tmps,params:=ps,assign,body,defers:=w.heap.size }:=⟨_,rfl⟩;obtain⟨W1,hW1⟩:∃ W1,(w.alloc (.deferred (some []))).alloc (.loop (rec .ready none))=W1:=⟨_,rfl⟩;have hK0:=zy w (.deferred (some []));have hK1:W1.heap[w.heap.size]?=some (.deferred (some [])):=by rw [<- hW1];exact qJ _ hK0
 have hL1:W1.heap[w.heap.size+1]?=some (.loop (rec .ready none)):=by
  rw [<- hW1];have:=zy (w.alloc (.deferred (some []))) (.loop (rec .ready none));rwa [wz] at this
 have hs1:W1.heap.size=w.heap.size+2:=by rw [<- hW1];simp
 have hst1:Bw w W1:=by
  rw [<- hW1];exact ((zba w _)).alloc (by simp) _
 have hJ1:=hJ.step _ _ _ _ h0 (.below hst1);have hFl:∀ k,F0 k->k<w.heap.size:=fun k hk=>(hJ.lt _ _ _ k h0 hk).1;refine⟨w.heap.size+1,[{ target := .collected w.heap.size,args := #[] }],W1,{ target := .fn (.func gf) lb,args := #[.func (.yield (w.heap.size+1)) #[] #[]] },W1,gf,
  #[.func (.yield (w.heap.size+1)) #[] #[]]++lb,W1,?_,?_,fun _ _=>trivial,?_,fun h=>by simp [FR] at h,?_⟩
 ·rw [<- hW1,hrec];exact Kn _ _ _ _ _
 ·have hg':=ha.eval hg;simp only [resolve,hg'];simp [go_sem]
 ·simp [invoke,go_sem,hcall]
 ·have hargs : #[Value.func (.yield (w.heap.size+1)) #[] #[]]++lb=(Value.func (.yield (w.heap.size+1)) #[] #[]::lb.toList).toArray:=by rw [<- Qb];simp
  rw [hargs];have book:∀ {σ:Type} {K:σ->(Nat->Prop)->Wd->Prop} (lo:Loop),JG w.heap.size (fun _=>False) K->JG W1.heap.size (fun _=>False) (fun s F W=>K s F W/\W.heap[w.heap.size+1]?=some (.loop lo)/\W.heap[w.heap.size]?=some (.deferred (some []))/\¬ F (w.heap.size+1)/\¬ F w.heap.size):=by
   intro σ K lo hK;exact⟨fun s F A B ⟨hk,hl,hd,hf1,hf2⟩ hs=>⟨hK.step s F A B hk (hs.mono (by omega)),(hs.same _ (hlt hl) (.inl ⟨by omega,fun h=>h⟩)).trans hl,(hs.same _ (hlt hd) (.inl ⟨by omega,fun h=>h⟩)).trans hd,hf1,hf2⟩,fun s F A k ⟨hk,_⟩ hf=>hK.lt s F A k hk hf⟩
  have hcalls:=hI (w.heap.size+1) F0 (fun pre F W=>J pre F W/\W.heap[w.heap.size+1]?=some (.loop (rec .ready none))/\W.heap[w.heap.size]?=some (.deferred (some []))/\¬ F (w.heap.size+1)/\¬ F w.heap.size)
   W1 (by omega) (fun k hk=>by
    obtain⟨h1,h2⟩:=hRd k hk;rw [<- h2];exact hst1.block k (by omega)) hRF (book _ hJ) ?_ ⟨hJ1,hL1,hK1,fun h=>by have:=hFl _ h;omega,fun h=>by have:=hFl _ h;omega⟩
  ·refine zcU (hcalls.mono ?_);rintro e W2 ⟨⟨v,rfl⟩,F,hj,hl,hk,hf1,hf2⟩;have hj2:=hJ.step _ _ _ _ hj (StepG.put (Ow:=fun _=>False) (o := .loop (rec .exhausted none)) (n0:=w.heap.size) (l:=w.heap.size+1) (by omega) hf1);refine⟨none,_,by have:=UV (P:=S.P) hl (by rw [hrec];simp);rw [hrec] at this;exact this,?_⟩;rw [hrec] at hj2;exact⟨⟨E.vs,{ target := .collected w.heap.size,args := #[] }::E.ds⟩,⟨ha.size,by simp [ha.defers],ha.val⟩,hdone w.heap.size F _ (UR _) hf2 hj2 ((zj (by omega)).trans hk)⟩
  ·rintro pre x vs F W ⟨hj,hl,hk,hf1,hf2⟩ hst0 hgv0 hpre;have hg1:¬ (F (w.heap.size+1)\/Gv vs (w.heap.size+1)):=fun h=>h.elim hf1 fun h=>by
    obtain⟨_,_,_,h2⟩:=hGv _ _ _ _ hst0 h;rw [hl] at h2;cases h2
   have hg2:¬ (F w.heap.size\/Gv vs w.heap.size):=fun h=>h.elim hf2 fun h=>by
    obtain⟨_,_,_,h2⟩:=hGv _ _ _ _ hst0 h;rw [hk] at h2;cases h2
   have hy:=run_yield (P:=S.P) (args:=vs.toArray) hl (by rw [hrec];simpa using hps _ _ _ hst0);rw [hrec] at hy;refine⟨fn,_,assign,body,hy,zb0 (r:=none) (n:=NN) (roundIn_of_wpIn (F:=FR none) trivial ?_)⟩;have hag:Agrees (sr S (w.heap.size+1)) { tmps:=(ps.zip vs.toArray).foldl (fun t (p,v)=>t.setIfInBounds p v) a.tmps,defers:=[] } ⟨zgx ps.toList vs E.vs,[]⟩:=by
    have h1:Agrees (sr S (w.heap.size+1)) { a with defers:=[] } ⟨E.vs,[]⟩:=⟨ha.size,rfl,ha.val⟩;have h2:=zbZ ps.toList vs _ _ h1 hpn;have e:(ps.zip vs.toArray).foldl (fun t (p,v)=>t.setIfInBounds p v) a.tmps=(ps.toList.zip vs).foldl (fun t (p,v)=>t.setIfInBounds p v) a.tmps:=by
     rw [<- Ko];simp
    rw [e];exact h2
   have hw:=qV (zh6 hS _) assign _ _ W _ hag (hround (w.heap.size+1) pre x vs F W (by omega) hpre hj hst0 (fun k hk=>by have:=hgv0 k hk;omega) hf1 ⟨_,hl⟩);refine Gb hw ?_;rintro ex a1 Wa ⟨E1,hag1,rfl,F1,hk1,hj1,hbody⟩;have hla:=(hk1.same _ (hlt hl) hg1).trans hl;have hka:=(hk1.same _ (hlt hk) hg2).trans hk;have hfa1:¬ F1 (w.heap.size+1):=fun h=>by rcases hk1.fp _ h with h | h;exact hg1 h;have:=hlt hl;omega
   have hfa2:¬ F1 w.heap.size:=fun h=>by rcases hk1.fp _ h with h | h;exact hg2 h;have:=hlt hk;omega
   refine⟨_,run_beginRound hla (by rw [hrec]),?_⟩;have hst:StepG w.heap.size (fun _=>False) F1 Wa (Wa.putObj (w.heap.size+1) (.loop { rec .ready none with state := .busy })) := .put (by omega) hfa1 _;have hj2:=hJ.step _ _ _ _ hj1 hst;have hw2:=qV (zh6 hS _) body _ _ _ _ hag1 (hbody _ _ rfl hj2);refine Gb hw2 ?_;have hl2:(Wa.putObj (w.heap.size+1) (.loop { rec .ready none with state := .busy })).heap[w.heap.size+1]?=some (.loop { rec .ready none with state := .busy }):=zcv hla;have hk2:(Wa.putObj (w.heap.size+1) (.loop { rec .ready none with state := .busy })).heap[w.heap.size]?=some (.deferred (some [])):=(zj (by omega)).trans hka;rintro e a3 W3 ⟨E3,_,hq⟩
   cases e with
   | normal =>
    obtain⟨F3,hj3,hk3⟩:=hq;have hl3:=(hk3.same _ (hlt hl2) hfa1).trans hl2;have hd3:=(hk3.same _ (hlt hk2) hfa2).trans hk2;have hf31:¬ F3 (w.heap.size+1):=fun h=>by rcases hk3.fp _ h with h | h;exact hfa1 h;have:=hlt hl2;omega
    have hf32:¬ F3 w.heap.size:=fun h=>by rcases hk3.fp _ h with h | h;exact hfa2 h;have:=hlt hk2;omega
    have hr3:=run_endRound (P:=S.P) none hl3;have hl4:=zcv (o' := .loop (rec .ready none)) hl3;have hk4:(W3.putObj (w.heap.size+1) (.loop (rec .ready none))).heap[w.heap.size]?=some (.deferred (some [])):=(zj (by omega)).trans hd3;have hs3:StepG w.heap.size (fun _=>False) F3 W3 (W3.putObj (w.heap.size+1) (.loop (rec .ready none))) := .put (by omega) hf31 _;have hj4:=hJ.step _ _ _ _ hj3 hs3;rw [hrec] at hr3 hl4 hk4 hs3 hj4;refine⟨_,_,hr3,rfl,F3,⟨hj4,by rw [hrec];exact hl4,hk4,hf31,hf32⟩,hs3.os.trans (hk3.os.trans hk1.os),hs3.tape.trans (hk3.tape.trans hk1.tape),hs3.output.trans (hk3.output.trans hk1.output),?_,fun k hk5 hf5=>?_,fun k hk5=>?_⟩
    ·have h1:=hk1.size;have h2:=hst.size;have h3:=hk3.size;have h4:=hs3.size;exact UI (UI (UI h1 h2) h3) h4
    ·by_cases hkl:k=w.heap.size+1
     ·subst hkl;rw [hl,hrec];exact hl4
     ·have h1:¬ F1 k:=fun h=>by rcases hk1.fp _ h with h | h;exact hf5 h;omega
      have h2:=hk1.size;have h3:=hst.size;rw [zj hkl,hk3.same k (by omega) h1,zj hkl];exact hk1.same k hk5 hf5
    ·rcases hk3.fp _ hk5 with h2 | h2
     ·exact hk1.fp _ h2
     ·have h3:=hk1.size;have h4:=hst.size;exact .inr (by omega)
   | ret=>exact (show False from (by obtain⟨_,h,_⟩:=hq;exact h)).elim
   | exit id=>exact (show False from (by obtain⟨_,h,_⟩:=hq;exact h)).elim
   | goto t=>exact hq.elim
   | panic ch=>exact hq.elim
   | outgrown=>exact hq.elim
end Go.Vc
namespace Go.Proofs.YtkpaomeeknegpaaGreatDoor
open Go.Vc Go.RowKit Go.Sei
abbrev zdw:=List zaP×OA×Nat
def zhO:Enc zdw where
 sz:=1
 enc x:=[.slice x.2.1 x.1.length x.2.2]
 len x:=rfl
 one x v hv:=by
  simp at hv;subst hv;rfl
 pos:=by decide
structure MixM (Rd:Nat->Prop) (w:Wd) (b o:Nat) (m:MixD) (q:OA) (c:Nat) (p1 p2 p3:OA) (c1 c2 c3:Nat) (xs ys:List zaP):Prop where
 cells:zI w ⟨b,o,none⟩ (exC m.base q c++[.slice p1 m.rs.length c1,.slice p2 xs.length c2,.slice p3 ys.length c3])
 ev:SlR evE w q m.base.ev
 qn:q=none->c=0
 r1:SlR zC w p1 (m.rs.map (·.1))
 e2:xs.map (·.1)=m.rs.map (·.2)
 r2:SlR jf w p2 xs
 n2:∀ y∈xs,SlR zC w y.2.1 y.1
 e3:ys.map (·.1)=m.wr
 r3:SlR jf w p3 ys
 n3:∀ y∈ys,SlR zC w y.2.1 y.1
 db:Rd b
 dq:∀ a,q=some a->Rd a.block
 d1:∀ a,p1=some a->Rd a.block
 d2:∀ a,p2=some a->Rd a.block
 d3:∀ a,p3=some a->Rd a.block
 m2:∀ y∈xs,∀ a,y.2.1=some a->Rd a.block
 m3:∀ y∈ys,∀ a,y.2.1=some a->Rd a.block
theorem MixM.same {Rd:Nat->Prop} {w X:Wd} {b o:Nat} {m:MixD} {q:OA} {c:Nat} {p1 p2 p3:OA} {c1 c2 c3:Nat} {xs ys:List zaP} (h:MixM Rd w b o m q c p1 p2 p3 c1 c2 c3 xs ys) (hs:∀ k,Rd k->X.heap[k]?=w.heap[k]?):MixM Rd X b o m q c p1 p2 p3 c1 c2 c3 xs ys :=
 ⟨js (hs _ h.db) h.cells,je h.ev fun a ha=>hs _ (h.dq a ha),h.qn,je h.r1 fun a ha=>hs _ (h.d1 a ha),h.e2,je h.r2 fun a ha=>hs _ (h.d2 a ha),fun y hy=>je (h.n2 y hy) fun a ha=>hs _ (h.m2 y hy a ha),
  h.e3,je h.r3 fun a ha=>hs _ (h.d3 a ha),fun y hy=>je (h.n3 y hy) fun a ha=>hs _ (h.m3 y hy a ha),h.db,h.dq,h.d1,h.d2,h.d3,h.m2,h.m3⟩
theorem zeK {w:Wd} {b o:Nat} {x:ExD} {q:OA} {c:Nat} {S:List Value} (h:zI w ⟨b,o,none⟩ (exC x q c++S)) {i:Nat} {v:Value} (hi:S[i]?=some v):w.cell? ⟨b,o+(333+i),none⟩=some v:=zc h (zgc hi)
theorem zuR {B c:Nat} {V1:Wd} {p:OA} {l:List zdw} {y:zdw} {a:Addr} (ho:OwnS zhO 93 B V1 p c l) (ha:zI V1 a ([y].flatMap zhO.enc)) (hB:B<=V1.heap.size) (hl:l.length<=100000) {K:Value->Wd->Prop}
  (h:∀ p' c' w',OwnS zhO 93 B w' p' c' (l++[y])->V1.grownBy w' (p.map Addr.block)->(∀ a,p'=some a->p=some a\/a.block=V1.heap.size)->K (.slice p' (l++[y]).length c') w') :
  SatR ((Builtin.append_ #[142,142] 142 #[.slice p l.length c,.slice (some a) 1 1]).run PG V1) K :=
 jj (E:=zhO) (T:=93) (B:=B) (l:=l) (news:=[y]) (cap:=c) (m:=1) Tryz.underlying142 k93 rfl rfl rfl ho rfl ha hB (by omega) (by show (l.length+1)*24<=_;omega) fun p' c' w' a1 a2 _ a4=>h p' c' w' a1 (by rw [zad] at a2;exact a2) a4
structure CanS (B:Nat) (Z:Wd) (yl L R:Nat) (ss:List Nat) (ps:OA) (cs:Nat) (zs:List zdw) (pr:OA) (cr:Nat):Prop where
 fL:Z.heap[L]?=some (.cells #[.func (.yield yl) #[] #[]] 79 (0,0))
 fR:Z.heap[R]?=some (.cells #[.slice pr zs.length cr] 142 (0,0))
 own:OwnS zC 3 B Z ps cs ss
 rk:OwnS zhO 93 B Z pr cr zs
 n1:∀ z∈zs,OwnS jf 62 B Z z.2.1 z.2.2 z.1
 n2:∀ z∈zs,∀ y∈z.1,OwnS zC 3 B Z y.2.1 y.2.2 y.1
 dis:∀ z∈zs,∀ y∈z.1,∀ a b,ps=some a->y.2.1=some b->a.block≠b.block
theorem CanS.below {B:Nat} {Z Y:Wd} {yl L R:Nat} {ss:List Nat} {ps:OA} {cs:Nat} {zs:List zdw} {pr:OA} {cr:Nat} (h:CanS B Z yl L R ss ps cs zs pr cr) (hb:Bw Z Y):CanS B Y yl L R ss ps cs zs pr cr :=
 ⟨zb hb h.fL,zb hb h.fR,h.own.below hb,h.rk.below hb,fun z hz=>(h.n1 z hz).below hb,fun z hz y hy=>(h.n2 z hz y hy).below hb,h.dis⟩
theorem CanS.size {B:Nat} {Z Y:Wd} {yl L R:Nat} {ss:List Nat} {ps:OA} {cs:Nat} {zs:List zdw} {pr:OA} {cr:Nat} (h:CanS B Z yl L R ss ps cs zs pr cr) {ps':OA} {cs' n:Nat} (ho:OwnS zC 3 B Y ps' cs' (ss++[n])) (g:Z.grownBy Y (ps.map Addr.block)) (hat:∀ a,ps'=some a->ps=some a\/a.block=Z.heap.size):CanS B Y yl L R (ss++[n]) ps' cs' zs pr cr :=
 ⟨qo h.fL h.own (by decide) g,qo h.fR h.own (by decide) g,ho,jK h.rk h.own (by decide) g,fun z hz=>jK (h.n1 z hz) h.own (by decide) g,fun z hz y hy=>zde (h.n2 z hz y hy) g fun a b ha hb=>h.dis z hz y hy a b ha hb,fun z hz y hy a b ha hb=>by
  rcases hat a ha with h1 | h1
  ·exact h.dis z hz y hy a b h1 hb
  ·have:=(zx (h.n2 z hz y hy) hb).2.1;omega⟩
theorem zmE {ds:List Nat}:∀ {rs:List (Nat×List Nat)} {ds:List Nat} {f:Nat->Nat},zJ f->(∀ r∈rs,r.1<48)->zJ (rfF rs ds f)
 | [],_,_,h,_=>h
 | (r,s)::rs,ds,f,h,hr=>by
  have h1:=hr (r,s) Kx;refine zmE (rs:=rs) (ds:=ds.tail) (f:=upd f (s.getD (ds.headD 0) 0) (f (s.getD (ds.headD 0) 0)|||2^r)) ?_ fun x hx=>hr x (JW _ hx);intro j hj;by_cases e:j=s.getD (ds.headD 0) 0
  ·rw [e,zQ];exact KV (by rw [<- e];exact h j hj) (zZ (by have:r<48:=h1;omega))
  ·rw [qz _ _ e];exact h j hj
theorem znk {ev:List Ev}:∀ {Rs:List (List (List Nat))} {l:Nat} {ds:List Nat} {p:RelD×(Nat->UInt8)},zJ p.1.to->(∀ R∈Rs,∀ k∈R,∀ a∈k,a<48)->zJ (coG ev l Rs ds p).1.to
 | [],_,_,_,h,_=>h
 | R::Rs,l,ds,p,h,hr=>by
  refine znk (Rs:=Rs) (l:=l+1) (ds:=ds.tail) (p:=(zas (R.getD (ds.headD 0) []) p.1,_)) (zis h fun a ha=>?_) fun x hx=>hr x (JW _ hx);rw [gDe] at ha
  cases hg:R[ds.headD 0]? with
  | none=>rw [hg] at ha;cases ha
  | some k =>
   rw [hg] at ha;exact hr R Kx k (JY hg) a ha
section
variable (x:ExD) (q:OA) (c:Nat)
theorem zpY:∃ A Z,A.length=50/\∀ r,exC { x with rf:=r } q c=A++(zf r++Z):=by
 obtain⟨A,Z,h1,h2⟩:=zsC x q c [];exact⟨A,Z,h1,fun r=>by rw [<- h2,QF]⟩
theorem zl7:∃ A Z,A.length=99/\∀ r,exC { x with co:=r } q c=A++(zf r++Z):=by
 obtain⟨A,Z,h1,h2⟩:=zsE x q c [];exact⟨A,Z,h1,fun r=>by rw [<- h2,QF]⟩
theorem zrN {l:Nat} (hl:l<6) (v:UInt8):(exC x q c).set (327+l) (u8 v)=exC { x with mem:=upd x.mem l v } q c:=by
 obtain⟨A,Z,h1,h2⟩:=zpX x q c [];have e1:=h2 x.mem;have e2:=h2 (upd x.mem l v);rw [QF] at e1 e2;rw [e2];show (exC { x with mem:=x.mem } q c).set _ _=_;rw [e1,qC h1];have e3:=zes (B:=Z) (f:=fun i=>u8 (x.mem i)) (fun i=>u8 (upd x.mem l v i)) hl (fun j hj=>by rw [qz _ _ hj]);rw [<- e3,zQ]
theorem ztq (l:List Ev) (q':OA) (c':Nat):(exC x q c).set 0 (.slice q' l.length c')=exC { x with ev:=l } q' c':=rfl
end
abbrev zbV:=ExD×OA×Nat
def exE:Enc zbV:=⟨fun x=>exC x.1 x.2.1 x.2.2,333,fun _=>zD ..,by decide,fun a u hu=>Qg.1 (za0 ..) u hu⟩
abbrev ExH (X:Wd) (b:Nat) (x:ExD) (q:OA) (c:Nat):Prop:=X.heap[b]?=some (.cells (exC x q c).toArray 46 (0,0))
def StX (B:Nat) (pre:List ExD) (vs:List Value) (W:Wd):Prop:=∃ x q c,pre.getLast?=some x/\vs=[.agg (exC x q c).toArray]/\OwnS evE 49 B W q c x.ev
def GvX (vs:List Value) (k:Nat):Prop:=∃ (x:ExD) (a:Addr) (c:Nat),vs=[.agg (exC x (some a) c).toArray]/\k=a.block
theorem zlC {xs:List zaP} {rs:List (Nat×List Nat)} (h:xs.map (·.1)=rs.map (·.2)):xs.map (·.1.length)=rs.map fun r=>r.2.length:=by
 have:=Gd (List.map List.length) h;rw [UD,UD] at this;exact this
theorem zkd {zs:List zdw} {ws:List (List Nat)} (h:zs.map (fun z=>z.1.map (·.1))=ws.map zM):zs.map (·.1.length)=ws.map fun w=>(zM w).length:=by
 have:=Gd (List.map List.length) h;rw [UD,UD] at this;rw [<- show zs.map (List.length ∘ fun z:zdw=>z.1.map (·.1))=zs.map (·.1.length) from Ki fun z _=>QI _];exact this
section
variable {Rd:Nat->Prop} {W0:Wd} {bx b o:Nat} {m:MixD} {q:OA} {c:Nat} {p1 p2 p3:OA} {c1 c2 c3:Nat} {xs ys:List zaP}
theorem zsb (hM:MixM Rd W0 b o m q c p1 p2 p3 c1 c2 c3 xs ys) (fx:W0.heap[bx]?=some (.cells #[.pointer (some ⟨b,o,none⟩)] 141 (0,0))) (hbx:Rd bx) (hRd:∀ k,Rd k->k<W0.heap.size) (hT:Tz64M W0) (hRt:Rd 1) (hB:MixB m) (hev:m.base.ev.length<=48) :
  zqF PG 77 [At0 bx] (zds m) W0 Rd (StX W0.heap.size) GvX:=by
 intro yl F0 J W hsz hrd hrf hJ hy h0;refine qk 141 [.func (.yield yl) #[] #[],At0 bx] (.c .p (.s .p (.c .p (.c .p (.c .p (.s .p .p)))))) Tryz.func77 ?_;have hMW:=hM.same hrd;have fxW:=(hrd bx hbx).trans fx;have hTW:Tz64M W:=zal hT (hrd _ hRt);have hRW:∀ k,Rd k->k<W.heap.size:=fun k hk=>by have:=hRd k hk;omega
 obtain⟨L,hL⟩:=nm (W.heap.size);have hxl:xs.length=m.rs.length:=by have:=Gd List.length hM.e2;simpa using this
 have hyl:ys.length=m.wr.length:=by have:=Gd List.length hM.e3;simpa using this
 have hrl48:=hB.rl;have hwl6:=hB.wl;have hx1:∀ y∈xs,y.1.length<=1000:=fun y hy=>by
  have:y.1∈m.rs.map (·.2):=by rw [<- hM.e2];exact UF.2 ⟨y,hy,rfl⟩
  obtain⟨r,hr,he⟩:=UF.1 this;rw [<- he];exact (hB.rs r hr).2.1
 refine⟨Unit,fun _=>⟨[(1,At0 bx),(2,At0 L)],[]⟩,fun _ X=>X.heap[L]?=some (.cells #[.func (.yield yl) #[] #[]] 79 (0,0))/\X.heap.size=L+1/\Bw W X,?_,?_⟩
 ·exact⟨(),⟨.cons rfl (.cons (by rw [hL];rfl) .nil),rfl⟩,by rw [hL];exact zy W _,by rw [hL];exact wz _ _,(zba W _)⟩
 rintro _ X ⟨fL,sX,hbX⟩;refine⟨OA×Nat,fun s=>⟨[(1,At0 bx),(2,At0 L),(3,.slice s.1 (xs.map (·.1.length)).length s.2)],[]⟩,fun s Z=>OwnS zC 3 W.heap.size Z s.1 s.2 (xs.map (·.1.length))/\Z.heap[L]?=some (.cells #[.func (.yield yl) #[] #[]] 79 (0,0))/\Bw W Z,?_,?_⟩
 ·refine⟨_,zc (za (zb hbX fxW)) (i:=0) rfl,_,zeK (hMW.same fun k hk=>hbX.block k (hRW k hk)).cells (i:=1) rfl,?_⟩;refine⟨Nat×OA×Nat,fun s=>⟨[(1,At0 bx),(2,At0 L),(3,.slice s.2.1 ((xs.take s.1).map (·.1.length)).length s.2.2),(20,.slice p2 xs.length c2),(21,i64 xs.length),(22,i64 (s.1:Nat))],[]⟩,
   fun s Z=>s.1<=xs.length/\OwnS zC 3 W.heap.size Z s.2.1 s.2.2 ((xs.take s.1).map (·.1.length))/\Z.heap[L]?=some (.cells #[.func (.yield yl) #[] #[]] 79 (0,0))/\Bw W Z,fun s=>xs.length-s.1,(0,none,0),
   (cvE rfl rfl),⟨UU _,OwnS.nil,fL,hbX⟩,?_⟩
  rintro⟨k,ps,cs⟩ Z ⟨hk,ho,fL,hbZ⟩;dsimp only at hk ho ⊢;refine biE (fun hc=>?_) fun hc=>?_
  ·have hc:(k:Int)<(xs.length:Int):=dT hc;have hkl:k<xs.length:=by omega
   have hZM:=hMW.same fun k hk=>hbZ.block k (hRW k hk);obtain⟨x,hx⟩:∃ x,xs[k]=x:=⟨_,rfl⟩;obtain⟨bp,op,hpe,hlp,hat⟩:=hZM.r2.at hkl;subst hpe;refine⟨k,rfl,hkl,slV x,by rw [<- hx];exact zc (hat k hkl) (i:=0) rfl,⟨by decide,by decide,rfl⟩,zC.enc x.1.length,rfl,?_⟩;have hb1:Bw Z (Z.alloc (.cells (zC.enc x.1.length).toArray 3)):=zba _ _;have hZs:=hbZ.size;have htl:((xs.take k).map (·.1.length)).length=k:=by rw [QI,Qr];omega
   have htk:(xs.take (k+1)).map (·.1.length)=(xs.take k).map (·.1.length)++[x.1.length]:=by
    rw [tsg hkl,QL,hx];rfl
   unfold zdX zax;show SatR _ _;refine zoC (ho.below hb1) (qK zC x.1.length) (by have:=hb1.size;omega) (by have:=hB.rl;omega) fun p' c' U oU gU hat1=>?_;rw [zad] at gU;rw [<- htk] at oU ⊢;have fU:=qo (zb hb1 fL) (ho.below hb1) (by decide) gU;exact nxI (by omega) ⟨(k+1,p',c'),(cvE rfl rfl),⟨hkl,oU,fU,hbZ.trans ((hb1.mono hZs).trans (qF (ho.below hb1) (by have:=hb1.size;omega) (UR _) gU))⟩,zdc (by omega)⟩
  ·have hc:¬ (k:Int)<(xs.length:Int):=dF hc;obtain rfl:k=xs.length:=by omega
   rw [Qt] at ho ⊢;exact⟨(ps,cs),(cvE rfl rfl),ho,fL,hbZ⟩
 clear fL sX hbX;rintro⟨ps,cs⟩ X ⟨ho,fL,hbX⟩;dsimp only at ho ⊢;refine⟨Nat,fun R=>⟨[(1,At0 bx),(2,At0 L),(3,.slice ps (xs.map (·.1.length)).length cs),(6,At0 R)],[]⟩,fun R Z=>CanS W.heap.size Z yl L R (xs.map (·.1.length)) ps cs [] none 0/\L<R/\Bw W Z,?_,?_⟩
 ·refine⟨X.heap.size,(cvE rfl rfl),⟨qJ _ fL,zy X _,ho.alloc _,OwnS.nil,fun z hz=>(by cases hz),fun z hz=>(by cases hz),fun z hz=>(by cases hz)⟩,hlt fL,hbX.alloc hbX.size _⟩
 clear ho fL hbX;rintro R X ⟨hS,hLR,hbX⟩;refine⟨(List zdw×OA×Nat)×OA×Nat,fun s=>⟨[(1,At0 bx),(2,At0 L),(3,.slice s.2.1 (zL m).length s.2.2),(6,At0 R)],[]⟩,fun s Z=>CanS W.heap.size Z yl L R (zL m) s.2.1 s.2.2 s.1.1 s.1.2.1 s.1.2.2/\s.1.1.map (fun z=>z.1.map (·.1))=m.wr.map zM/\Bw W Z,?_,?_⟩
 ·refine⟨_,zc (za (zb hbX fxW)) (i:=0) rfl,_,zeK (hMW.same fun k hk=>hbX.block k (hRW k hk)).cells (i:=2) rfl,?_⟩;refine⟨Nat×(List zdw×OA×Nat)×OA×Nat,fun s=>⟨[(1,At0 bx),(2,At0 L),(3,.slice s.2.2.1 (xs.map (·.1.length)++s.2.1.1.map (·.1.length)).length s.2.2.2),(6,At0 R),(35,.slice p3 ys.length c3),(36,i64 ys.length),(37,i64 (s.1:Nat))],[]⟩,
   fun s Z=>s.1<=ys.length/\CanS W.heap.size Z yl L R (xs.map (·.1.length)++s.2.1.1.map (·.1.length)) s.2.2.1 s.2.2.2 s.2.1.1 s.2.1.2.1 s.2.1.2.2/\s.2.1.1.map (fun z=>z.1.map (·.1))=(ys.take s.1).map (fun y=>zM y.1)/\Bw W Z,fun s=>ys.length-s.1,(0,([],none,0),ps,cs),
   ⟨.cons rfl (.cons rfl (.cons (by simp;rfl) (.cons rfl (.cons rfl (.cons rfl (.cons rfl .nil)))))),rfl⟩,⟨UU _,by simpa using hS,rfl,hbX⟩,?_⟩
  clear hS hbX;rintro⟨k,⟨zs,pr,cr⟩,ps,cs⟩ Z ⟨hk,hS,hz,hbZ⟩;dsimp only at hk hS hz ⊢;have hzl:zs.length=k:=by
   have:=Gd List.length hz;rw [QI,QI,Qr] at this;omega
  refine biE (fun hc=>?_) fun hc=>?_
  ·have hc:(k:Int)<(ys.length:Int):=dT hc;have hkl:k<ys.length:=by omega
   have hZM:=hMW.same fun k hk=>hbZ.block k (hRW k hk);obtain⟨y,hyk⟩:∃ y,ys[k]=y:=⟨_,rfl⟩;have hym:y∈ys:=by rw [<- hyk];exact gM hkl
   have hyw:y.1∈m.wr:=by rw [<- hM.e3];exact UF.2 ⟨y,hym,rfl⟩
   obtain⟨bw1,bw2,bw3⟩:=hB.wr _ hyw;obtain⟨bp,op,hpe,hlp,hat⟩:=hZM.r3.at hkl;subst hpe;refine⟨k,rfl,hkl,slV y,by rw [<- hyk];exact zc (hat k hkl) (i:=0) rfl,cmo (zpq (hZM.n3 y hym) bw1 (zal hTW (hbZ.block _ (hRW _ hRt)))) ?_⟩;rintro e Y ⟨⟨rk,pk,ck,rfl,hrk,ork,onk⟩,hbY⟩;have hZs:=hbZ.size;have hSY:=hS.below hbY;have hrkl:rk.length<=10000:=by rw [<- hrk,QI] at bw2;exact bw2
   obtain⟨nz,hnz⟩:∃ nz:zdw,nz=(rk,pk,ck):=⟨_,rfl⟩;have hen:[Value.slice pk rk.length ck]=zhO.enc nz:=by rw [hnz];rfl
   refine⟨_,zc (za hSY.fR) (i:=0) rfl,⟨by decide,by decide,rfl⟩,zhO.enc nz,by rw [<- hen];rfl,?_⟩;have hb1:Bw Y (Y.alloc (.cells (zhO.enc nz).toArray 93)):=zba _ _;have hS1:=hSY.below hb1;have ork1:=ork.below hb1;have onk1:=fun x hx=>(onk x hx).below hb1;unfold zdX zax;show SatR _ _;refine zuR hS1.rk (qK zhO nz) (by have:=hb1.size;have:=hbY.size;omega) (by have:=hB.wl;omega) fun p' c' U oU gU hat1=>?_;have fLU:=qo hS1.fL hS1.rk (by decide) gU;have fRU:=qo hS1.fR hS1.rk (by decide) gU;refine zm zuL fRU (o:=0) (v := .slice p' (zs++[nz]).length c') rfl rfl (by show 0<1;decide) rfl fun S fS gS sS=>?_;have hbZY:=hbZ.trans (hbY.mono hZs);have sY:=hbY.size;have sb1:=hb1.size;have hbU:Bw W U:=(hbZY.trans (hb1.mono (by omega))).trans (qF hS1.rk (by omega) (UR _) gU);have hRn:W.heap.size<=R:=by omega
   have hbS:Bw W S:=hbU.trans (zk gS hbU.size hRn);have hSS:CanS W.heap.size S yl L R (xs.map (·.1.length)++zs.map (·.1.length)) ps cs (zs++[nz]) p' c':=by
    have kU:∀ {α:Type} {E:Enc α} {T cc:Nat} {r:OA} {ll:List α},T≠93->T≠142->OwnS E T W.heap.size (Y.alloc (.cells (zhO.enc nz).toArray 93)) r cc ll->OwnS E T W.heap.size S r cc ll:=fun {α E T cc r ll} h1 h2 h=>qj (jK h hS1.rk h1 gU) fRU h2 gS;refine⟨(gS.block L (hlt fLU) (by simp;omega)).trans fLU,fS,kU (by decide) (by decide) hS1.own,qj oU fRU (by decide) gS,fun z hz=>?_,fun z hz=>?_,fun z hz=>?_⟩
    ·rcases QM.1 hz with hz | hz
     ·exact kU (by decide) (by decide) (hS1.n1 z hz)
     ·rw [Ky.1 hz,hnz];exact kU (by decide) (by decide) (ork1.lower hZs)
    ·rcases QM.1 hz with hz | hz
     ·exact fun x hx=>kU (by decide) (by decide) (hS1.n2 z hz x hx)
     ·rw [Ky.1 hz,hnz];exact fun x hx=>kU (by decide) (by decide) ((onk1 x hx).lower hZs)
    ·rcases QM.1 hz with hz | hz
     ·exact hS1.dis z hz
     ·rw [Ky.1 hz,hnz];intro x hx a b ha hb;have:=(zx (onk x hx) hb).1;have:=(zx hS.own ha).2.1;omega
   clear hS1 ork1 onk1 hSY hS oU gU hat1 fLU fRU fS gS;refine⟨⟨by decide,by decide,rfl⟩,zC.enc rk.length,rfl,?_⟩;have hb2:Bw S (S.alloc (.cells (zC.enc rk.length).toArray 3)):=zba _ _;have hS2:=hSS.below hb2;have sbS:=hbS.size;have sb2:=hb2.size;unfold zdX zax;show SatR _ _;refine zoC hS2.own (qK zC rk.length) (by omega) (by rw [lap,QI,QI];have:=hB.rl;have:=hB.wl;omega) fun p2' c2' V oV gV hat2=>?_;rw [zad] at gV;have hSV:=hS2.size oV gV hat2;have hzz:(xs.map (·.1.length)++zs.map (·.1.length))++[rk.length]=xs.map (·.1.length)++(zs++[nz]).map (·.1.length):=by
    rw [QL,KL,hnz];rfl
   rw [hzz] at hSV ⊢;refine nxI (by omega) ⟨(k+1,(zs++[nz],p',c'),p2',c2'),(cvE rfl rfl),⟨hkl,hSV,?_,hbS.trans ((hb2.mono sbS).trans (qF hS2.own (by omega) (UR _) gV))⟩,zdc (by omega)⟩;rw [tsg hkl,hyk,QL,QL,hz,hnz];show _++[rk.map (·.1)]=_++[zM y.1];rw [hrk]
  ·have hc:¬ (k:Int)<(ys.length:Int):=dF hc;obtain rfl:k=ys.length:=by omega
   have hz2:zs.map (fun z=>z.1.map (·.1))=m.wr.map zM:=by
    rw [Qt] at hz;rw [hz,<- hM.e3,UD];rfl
   have hsz2:xs.map (·.1.length)++zs.map (·.1.length)=zL m:=by
    rw [zlC hM.e2,zkd hz2];rfl
   rw [hsz2] at hS ⊢;exact⟨((zs,pr,cr),ps,cs),(cvE rfl rfl),hS,hz2,hbZ⟩
 clear hS hbX;rintro⟨⟨zs,pr,cr⟩,ps,cs⟩ V ⟨hS,hz,hbV⟩;dsimp only at hS hz ⊢;have hVs:=hbV.size;have hMV:=hMW.same fun k hk=>hbV.block k (hRW k hk);have fxV:=zb hbV fxW;have hsl1:(zL m).length<=1000:=by
  unfold zL;rw [lap,QI,QI];omega
 have hsl2:∀ n∈zL m,n<=1000000:=fun n hn=>by
  unfold zL at hn;rcases QM.1 hn with hn | hn
  ·obtain⟨r,hr,rfl⟩:=UF.1 hn;have:=(hB.rs r hr).2.1;omega
  ·obtain⟨w,hw,rfl⟩:=UF.1 hn;have:=(hB.wr w hw).2.1;omega
 refine cmo zpt ?_;rintro e V1 ⟨rfl,fo,sV1,hbV1⟩;have hI:=zsw fo (hS.own.row.below hbV1) (fun a ha=>by have:=(zx hS.own ha).2.1;omega) hsl1 hsl2;obtain⟨Kp,hKp⟩:∃ Kp:(Nat->Prop)->Wd->Prop,Kp=fun F Y=>V1.heap.size<=Y.heap.size/\∀ k,k<V.heap.size->(Rd k\/W.heap.size<=k)->Y.heap[k]?=V.heap[k]?/\¬ F k:=⟨_,rfl⟩;have hF0:∀ k,F0 k->k<W.heap.size:=fun k hk=>(hJ.lt _ _ _ _ h0 hk).1;have hLV:=hlt hS.fL;have hRV:=hlt hS.fR;have hb1:Bw W V1:=hbV.trans (hbV1.mono hVs);refine zdb (ze7 _) rfl (lb := #[At0 V.heap.size]) rfl rfl hI (UR _) (fun k hk=>⟨?_,rfl⟩) (fun pre vs W ⟨l,q,_,h,_⟩=>by rw [h];rfl) (by decide)
  F0 (fun pre F Y=>J (pre.map (zw m)) F Y/\Kp F Y) (fun _ _ _ _=>False) (fun k hk=>?_) ⟨?_,?_⟩ (fun ex=>⟨fun _ _ _ _ h=>h.elim,fun _ _ _ _ h=>h.elim⟩) ⟨hJ.step _ _ _ _ h0 (.below hb1),?_⟩ ?_ ?_ ?_
 ·rcases hk with (rfl | ⟨a,ha,rfl⟩) | h
  ·omega
  ·have:=(zx hS.own ha).2.1;omega
  ·exact h.elim
 ·rcases hk with rfl | ⟨a,ha,rfl⟩
  ·intro h;have:=hF0 _ h;omega
  ·intro h;have:=hF0 _ h;have:=(zx hS.own ha).1;omega
 ·rintro pre F A C ⟨hj,hk⟩ hs;rw [hKp] at hk ⊢;have hss:=hs.size;exact⟨hJ.step _ _ _ _ hj (hs.mono (by omega)),UI hk.1 hss,fun k h1 h2=>⟨(hs.same k (by have:=hk.1;omega) (.inl ⟨by omega,fun h=>h⟩)).trans (hk.2 k h1 h2).1,(hk.2 k h1 h2).2⟩⟩
 ·rintro pre F A k ⟨hj,_⟩ hk;exact hJ.lt _ _ _ _ hj hk
 ·rw [hKp];refine⟨UR _,fun k h1 h2=>⟨hbV1.block k h1,fun h=>?_⟩⟩;rcases h2 with h2 | h2
  ·exact hrf k h2 h
  ·have:=hF0 k h;omega
 ·rintro yl2 pre ds vs F Y hyl hpre hJ0 ⟨l,qd,hlast,rfl,hsl,hcel⟩ hfy ⟨lo,hlo⟩;have hdx:ds=l:=by simpa using hlast
  subst hdx;refine⟨rfl,F,KeepsG.refl _ _,hJ0,?_⟩;rintro O Y2 hY2 ⟨hj,hkp⟩;rw [hKp] at hkp;obtain⟨hY2s,hkp⟩:=hkp;have hkq:=hkp;have hslY:SlR zC Y2 qd ds:=by
   rw [hY2];refine je hsl fun a ha=>zj fun e=>?_;obtain⟨cur,hcur⟩:=hcel a ha;rw [e,hlo] at hcur
   cases hcur
  obtain⟨hdl,hdlt⟩:=za1 (hpre.subset (JN _ (Ky.2 rfl)));have hdl2:ds.length=m.rs.length+m.wr.length:=by
   rw [hdl];unfold zL;rw [lap,QI,QI]
  have hMY:MixM Rd Y2 b o m q c p1 p2 p3 c1 c2 c3 xs ys:=hMV.same fun k hk=>(hkp k (by have:=hRW k hk;omega) (.inl hk)).1;have fxY:=(hkp bx (by have:=hRW bx hbx;omega) (.inl hbx)).1.trans fxV;have fLY:=(hkp L hLV (.inr (by omega))).1.trans hS.fL;have fRY:=(hkp R hRV (.inr (by omega))).1.trans hS.fR;have kR:∀ {α:Type} {E:Enc α} {T cc:Nat} {r:OA} {ll:List α},OwnS E T W.heap.size V r cc ll->OwnS E T W.heap.size Y2 r cc ll:=fun {α E T cc r ll} h=>h.same fun a ha=>(hkp _ (zx h ha).2.1 (.inr (zx h ha).1)).1;have rkY:=kR hS.rk;have n1Y:=fun z hz=>kR (hS.n1 z hz);have n2Y:=fun z hz y hy=>kR (hS.n2 z hz y hy);clear hkp hlo hcel hsl;have hbY:b<Y2.heap.size:=by have:=hRW b hM.db;omega
  refine⟨_,zc (za fxY) (i:=0) rfl,?_⟩;have hbase:zI Y2 ⟨b,o,none⟩ (exC m.base q c):=by
   have:=zP (n:=0) (m:=333) hMY.cells;rw [Uh,Jf (by rw [zD];decide),JF (by rw [zD];decide)] at this;exact this
  refine⟨exC m.base q c,zD _ _ _,hbase,hbY,?_⟩;obtain⟨M,hMM⟩:=nm (Y2.heap.size);refine zo (X:=Y2) (v := .agg (exC m.base q c).toArray) k46 (zD _ _ _) jx (za0 _ _ _) fun Z hbZ fZ sZ=>?_;have fZ:ExH Z Y2.heap.size m.base q c:=fZ;rw [<- hMM] at fZ ⊢;refine⟨_,zc (za fZ) (i:=0) rfl,cmo (ziK (hMY.ev.below hbZ) (by omega) hMY.qn) ?_⟩;rintro e Z2 ⟨⟨q1,k1,rfl,oE⟩,hbZ2⟩;refine zm k34 (zb hbZ2 fZ) (o:=0+0) (v := .slice q1 m.base.ev.length k1) rfl rfl (by rw [zD];decide) rfl fun S fS gS sS=>?_;rw [show 0+0=0 from rfl,ztq] at fS;have hMZ2:M<Z2.heap.size:=by have:=hbZ2.size;omega
  have hbS:Bw Y2 S:=((zst hbZ hbZ2)).trans (zk gS (by omega) (by omega));have oES:OwnS evE 49 Y2.heap.size S q1 k1 m.base.ev:=qj (oE.lower hbZ.size) (zb hbZ2 fZ) (by decide) gS;clear oE gS sS fZ hbZ hbZ2;have tMY:∀ {S:Wd},Bw Y2 S->MixM Rd S b o m q c p1 p2 p3 c1 c2 c3 xs ys:=fun {S} hb=>hMY.same fun k hk=>hb.block k (by have:=hRW k hk;omega);have hxlen:=hxl;refine⟨_,zc (za (zb hbS fxY)) (i:=0) rfl,_,zeK (tMY hbS).cells (i:=0) rfl,?_⟩;refine⟨Nat,fun k=>⟨[(1,At0 bx),(2,At0 L),(6,At0 R),(10,.slice qd ds.length ds.length),(11,At0 M),(67,.slice p1 m.rs.length c1),(68,i64 m.rs.length),(69,i64 (k:Nat))],[]⟩,
   fun k Z=>k<=m.rs.length/\ExH Z M { m.base with rf:=⟨m.base.rf.n,rfF (m.rs.take k) ds m.base.rf.to⟩ } q1 k1/\OwnS evE 49 Y2.heap.size Z q1 k1 m.base.ev/\Bw Y2 Z,fun k=>m.rs.length-k,0,
   (cvE rfl rfl),⟨UU _,fS,oES,hbS⟩,?_⟩
  clear fS oES hbS;rintro k Z ⟨hk,fZ,oE,hbZ⟩;refine biE (fun hc=>?_) fun hc=>?_
  ·have hc:(k:Int)<(m.rs.length:Int):=dT hc;have hkl:k<m.rs.length:=by omega
   have hZM:=tMY hbZ;have hZs:=hbZ.size;obtain⟨⟨r,s⟩,hrs⟩:∃ x,m.rs[k]=x:=⟨_,rfl⟩;obtain⟨hr48,hs1,hs48⟩:=hB.rs (r,s) (by rw [<- hrs];exact gM hkl);dsimp only at hr48 hs1 hs48;have hkx:k<xs.length:=by omega
   obtain⟨y,hyk⟩:∃ y,xs[k]=y:=⟨_,rfl⟩;have hym:y∈xs:=by rw [<- hyk];exact gM hkx
   have hys:y.1=s:=by
    have h1:(xs.map (·.1))[k]?=some y.1:=(by rw [KR,gE hkx,hyk];rfl);rw [hM.e2,KR,gE hkl,hrs] at h1;exact (Ua h1).symm
   obtain⟨d,hd⟩:∃ d,ds[k]?=some d:=⟨_,gE (by omega)⟩;have hkd:k<ds.length:=by omega
   have hde:ds[k]=d:=by rw [gE hkd] at hd;exact Ua hd
   have hdlt2:d<y.1.length:=by
    refine hdlt k _ d ?_ hd;unfold zL;rw [Jq (by rw [QI];exact hkl),KR,gE hkl,hrs,hys];rfl
   have hdlt3:d<s.length:=by rw [<- hys];exact hdlt2
   obtain⟨t,ht⟩:∃ t,y.1[d]=t:=⟨_,rfl⟩;have hts:s[d]=t:=by
    have h1:y.1[d]?=some t:=(by rw [gE hdlt2,ht]);rw [hys,gE hdlt3] at h1;exact Ua h1
   have ht48:t<48:=hs48 t (by rw [<- hts];exact gM hdlt3);have hgt:s.getD (ds.getD k 0) 0=t:=by
    rw [gDe,gDe,hd];show (s[d]?).getD 0=t;rw [gE hdlt3,hts];rfl
   have htk:rfF (m.rs.take (k+1)) ds m.base.rf.to=upd (rfF (m.rs.take k) ds m.base.rf.to) t (rfF (m.rs.take k) ds m.base.rf.to t|||2^r):=by
    rw [tsg hkl,hrs,zj6,Qr,QV hk,hgt]
   obtain⟨G,hG⟩:=nm (rfF (m.rs.take k) ds m.base.rf.to);have hGw:zJ G:=by
    rw [hG];exact zmE (ds:=[]) hB.rf fun r hr=>(hB.rs r (JZ hr)).1
   rw [<- hG] at fZ htk;obtain⟨A,T,hA,hE⟩:=zpY { m.base with rf:=⟨m.base.rf.n,G⟩ } q1 k1;have hRel:RelAt Z M 50 46 A T ⟨m.base.rf.n,G⟩:=⟨hA,by rw [<- hE];exact fZ⟩;have hr1:k<(m.rs.map (·.1)).length:=by rw [QI];exact hkl
   obtain⟨b1,o1,hp1,hl1,hat1⟩:=hZM.r1.at hr1;obtain⟨b2,o2,hp2,hl2,hat2⟩:=hZM.r2.at hkx;obtain⟨b3,o3,hp3,hl3,hat3⟩:=(hZM.n2 y hym).at hdlt2;have hslZ:=hslY.below hbZ;obtain⟨b4,o4,hp4,hl4,hat4⟩:=hslZ.at hkd;have e1:some (Value.slice p1 m.rs.length c1)=some (Value.slice (some ⟨b1,o1,none⟩) m.rs.length c1):=by rw [hp1]
   subst hp1;subst hp2;subst hp4;refine⟨k,rfl,hkl,i64 r,by have:=zc (hat1 k hr1) (i:=0) (v:=i64 r) (by rw [Qn,hrs];rfl);exact this,?_⟩;have dZ:Bw Z Z.drew:=(UW _ _).drew;refine DrawE.ord [23] [0,1,2,3,4,5,6,7,8,9,10,11,12,13,14,15,16,17,18,19,20,21,22,23] (by kernel_rfl) ⟨_,zc (za (hdr (zb hbZ fxY))) (i:=0) rfl,_,zeK (hZM.same (X:=Z.drew) fun _ _=>rfl).cells (i:=1) rfl,k,rfl,hkx,slV y,by have:=zc (zr dZ (hat2 k hkx)) (i:=0) (v:=slV y) (by rw [hyk];rfl);exact this,k,rfl,hkd,i64 d,by have:=zc (zr dZ (hat4 k hkd)) (i:=0) (v:=i64 d) (by rw [hde];rfl);exact this,?_⟩;unfold slV;rw [hp3];refine⟨d,rfl,hdlt2,i64 t,by have:=zc (zr dZ (hat3 d hdlt2)) (i:=0) (v:=i64 t) (by rw [ht];rfl);exact this,t,rfl,ht48,s64 (G t),(hRel.same (Y:=Z.drew) rfl).cell ht48,by omega,_,jX (e:=r) (by omega),_,zaf (hGw t ht48) (zZ (by omega)),t,rfl,ht48,zm k36 (hRel.same (Y:=Z.drew) rfl).cells (o:=50+1+t*1) (v:=s64 (G t|||2^r)) rfl rfl (by rw [hRel.len];omega) rfl fun S fS gS sS=>?_⟩;rw [hRel.set ht48] at fS;have gS2:Z.grownBy S (some M):=zd (zi dZ) gS;refine nxI (by omega) ⟨k+1,(cvE rfl rfl),⟨hkl,?_,qj oE fZ (by decide) gS2,hbZ.trans (zk gS2 hZs (by omega))⟩,zdc (by omega)⟩;rw [htk];have e5:=hE ⟨m.base.rf.n,upd G t (G t|||2^r)⟩;show S.heap[M]?=some (.cells (exC { m.base with rf:=⟨m.base.rf.n,upd G t (G t|||2^r)⟩ } q1 k1).toArray _ _);exact fS.trans (by rw [<- e5])
  have hc:¬ (k:Int)<(m.rs.length:Int):=dF hc;obtain rfl:k=m.rs.length:=by omega
  rw [Qt] at fZ;obtain⟨RF,hRF⟩:∃ RF:ExD,RF={ m.base with rf:=⟨m.base.rf.n,rfF m.rs ds m.base.rf.to⟩ }:=⟨_,rfl⟩;rw [<- hRF] at fZ;have hRFe:RF.ev=m.base.ev:=by rw [hRF]
  have hRFc:RF.co=m.base.co:=by rw [hRF]
  have hRFm:RF.mem=m.base.mem:=by rw [hRF]
  obtain⟨dl,hdle⟩:=nm (ds.drop m.rs.length);have hdll:dl.length=m.wr.length:=by rw [hdle,Qq];omega
  have hslD:SlR zC Y2 (ji qd ds.length m.rs.length 1) dl:=by
   have:=hslY.sub (cap:=ds.length) (lo:=m.rs.length) (hi:=ds.length) (by omega) (UR _) (UR _);rw [JF (by rw [Qq];exact UR _),<- hdle] at this;exact this
  refine⟨_,zc (za (zb hbZ fxY)) (i:=0) rfl,_,zeK (tMY hbZ).cells (i:=0) rfl,m.rs.length,rfl,by omega,?_⟩;obtain⟨qD,hqD⟩:=nm (ji qd ds.length m.rs.length 1);rw [<- hqD] at hslD ⊢;have hdn:ds.length-m.rs.length=dl.length:=by omega
  rw [hdn];obtain⟨Rs,hRs⟩:=nm (m.wr.map zM);have hRsl:Rs.length=m.wr.length:=by rw [hRs,QI]
  have hzl:zs.length=m.wr.length:=by have:=Gd List.length hz;simpa using this
  have hRsb:∀ R∈Rs,∀ k∈R,k≠[]/\k.length<=48/\∀ a∈k,a<m.base.ev.length:=fun R hR k hk=>by
   rw [hRs] at hR;obtain⟨w,hw,rfl⟩:=UF.1 hR;exact (hB.wr w hw).2.2 k hk
  refine⟨Nat,fun l=>⟨[(1,At0 bx),(2,At0 L),(6,At0 R),(11,At0 M),(104,.slice qD dl.length dl.length),(105,i64 dl.length),(106,i64 (l:Nat))],[]⟩,
   fun l Z=>l<=dl.length/\ExH Z M { RF with co:=(coG m.base.ev 0 (Rs.take l) dl (RF.co,RF.mem)).1,mem:=(coG m.base.ev 0 (Rs.take l) dl (RF.co,RF.mem)).2 } q1 k1/\OwnS evE 49 Y2.heap.size Z q1 k1 m.base.ev/\Bw Y2 Z,fun l=>dl.length-l,0,
   (cvE rfl rfl),⟨UU _,fZ,oE,hbZ⟩,?_⟩
  clear fZ oE hbZ;rintro l Z ⟨hl,fZ,oE,hbZ⟩;obtain⟨P,hP⟩:=nm (coG m.base.ev 0 (Rs.take l) dl (RF.co,RF.mem));rw [<- hP] at fZ;have hZs:=hbZ.size;have hPw:zJ P.1.to:=by
   rw [hP];refine znk (by rw [hRFc];exact hB.co) fun R hR k hk a ha=>?_;have:=(hRsb R (JZ hR) k hk).2.2 a ha;omega
  refine biE (fun hc=>?_) fun hc=>?_
  ·have hc:(l:Int)<(dl.length:Int):=dT hc;have hll:l<dl.length:=by omega
   have hlz:l<zs.length:=by omega
   have hlR:l<Rs.length:=by omega
   obtain⟨z,hzk⟩:∃ z,zs[l]=z:=⟨_,rfl⟩;have hzm:z∈zs:=by rw [<- hzk];exact gM hlz
   have hzR:Rs[l]?=some (z.1.map (·.1)):=by
    rw [hRs,<- hz,KR,gE hlz,hzk];rfl
   have hzRm:z.1.map (·.1)∈Rs:=JY hzR;obtain⟨d,hd⟩:∃ d,dl[l]=d:=⟨_,rfl⟩;have hdd:dl[l]?=some d:=by rw [gE hll,hd]
   have hdz:d<z.1.length:=by
    refine hdlt (m.rs.length+l) _ d ?_ (by rw [hdle,Ku] at hdd;exact hdd);unfold zL;rw [Jm (by rw [QI];omega),QI,Jy];have:=hzR;rw [hRs,KR] at this;rw [KR]
    cases hw:m.wr[l]? with
    | none=>rw [hw] at this;cases this
    | some w =>
     rw [hw] at this;have h2:zM w=z.1.map (·.1):=Ua this;show some (zM w).length=_;rw [h2,QI]
   obtain⟨y,hyk⟩:∃ y,z.1[d]=y:=⟨_,rfl⟩;have hym:y∈z.1:=by rw [<- hyk];exact gM hdz
   obtain⟨hy0,hy48,hyev⟩:=hRsb _ hzRm y.1 (UF.2 ⟨y,hym,rfl⟩);have hgy:(z.1.map (·.1)).getD d []=y.1:=by
    rw [gDe,KR,gE hdz,hyk];rfl
   obtain⟨hlR2,hzR2⟩:=Jr.1 hzR;have htk:coG m.base.ev 0 (Rs.take (l+1)) dl (RF.co,RF.mem)=(zas y.1 P.1,upd P.2 l (zd1 m.base.ev y.1)):=by
    rw [tsg hlR,hzR2,zk2,<- hP,Qr,QV (by omega),UM];rw [show dl.getD l 0=d by rw [gDe,hdd];rfl,hgy]
   obtain⟨bD,oD,hpD,hlD,hatD⟩:=(hslD.below hbZ).at hll;obtain⟨bR,oR,hpR,hlR0,hatR⟩:=(rkY.below hbZ).row.at hlz;obtain⟨bz,oz,hpz,hlz0,hatz⟩:=((n1Y z hzm).below hbZ).row.at hdz;have hyrow:=((n2Y z hzm y hym).below hbZ).row;have hylt:=fun a ha=>(zx (n2Y z hzm y hym) (a:=a) ha).2.1;subst hpD;subst hpR;refine⟨l,rfl,hll,i64 d,by have:=zc (hatD l hll) (i:=0) (v:=i64 d) (by rw [hd];rfl);exact this,_,zc (za (zb hbZ fRY)) (i:=0) rfl,l,rfl,hlz,.slice z.2.1 z.1.length z.2.2,by have:=zc (hatR l hlz) (i:=0) (v := .slice z.2.1 z.1.length z.2.2) (by rw [hzk];rfl);exact this,?_⟩;rw [hpz];refine⟨d,rfl,hdz,slV y,by have:=zc (hatz d hdz) (i:=0) (v:=slV y) (by rw [hyk];rfl);exact this,?_⟩;obtain⟨A,T,hA,hE⟩:=zl7 { RF with co:=P.1,mem:=P.2 } q1 k1;have hRel:RelAt Z M 99 46 A T P.1:=⟨hA,by rw [<- hE];exact fZ⟩;refine cmo (zpF hRel hPw hyrow (fun a ha=>by have:=hylt a ha;omega) (by omega) (fun a ha=>by have:=hyev a ha;omega)) ?_;rintro e V2 ⟨rfl,hRel2,gV2⟩;have fV2:ExH V2 M { RF with co:=zas y.1 P.1,mem:=P.2 } q1 k1:=by
    have e5:=hE (zas y.1 P.1);show V2.heap[M]?=some (.cells (exC { RF with co:=zas y.1 P.1,mem:=P.2 } q1 k1).toArray _ _);exact hRel2.cells.trans (by rw [<- e5])
   have hbV2:Bw Y2 V2:=hbZ.trans (zk gV2 hZs (by omega));have oE2:=qj oE fZ (by decide) gV2;have hyr2:=((n2Y z hzm y hym).below hbV2).row;obtain⟨j,hj2⟩:∃ j,j+1=y.1.length:=⟨y.1.length-1,by have:=List.length_pos_iff.2 hy0;omega⟩;have hjl:j<y.1.length:=by omega
   obtain⟨b6,o6,hp6,hl6,hat6⟩:=hyr2.at hjl;obtain⟨t,ht⟩:∃ t,y.1[j]=t:=⟨_,rfl⟩;have htev:t<m.base.ev.length:=hyev t (by rw [<- ht];exact gM hjl);have hlast:y.1.getLastD 0=t:=by
    rw [List.getLastD_eq_getLast?,List.getLast?_eq_getElem?,show y.1.length-1=j by omega,gE hjl,ht];rfl
   obtain⟨b7,o7,hp7,hl7,hat7⟩:=oE2.row.at htev;have hlV:zd1 m.base.ev y.1=(m.base.ev[t]).v:=by
    show (m.base.ev.getD (y.1.getLastD 0) ev0).v=_;rw [hlast,gDe,gE htev];rfl
   have dV:Bw V2 V2.drew:=(UW _ _).drew;have hl6':l<6:=by omega
   unfold slV;rw [hp6];refine DrawE.ord [15] [0,1,2,3,4,5,6,7,8,9,10,11,12,13,14,15] (by kernel_rfl) ⟨.slice q1 m.base.ev.length k1,by have:=zc (za (hdr fV2)) (i:=0) (v := .slice q1 RF.ev.length k1) rfl;rw [hRFe] at this;exact this,(j:Nat),(ze (by omega)).trans (by omega),j,rfl,hjl,i64 t,by have:=zc (zr dV (hat6 j hjl)) (i:=0) (v:=i64 t) (by rw [ht];rfl);exact this,?_⟩;rw [hp7];refine⟨t,rfl,htev,u8 (m.base.ev[t]).v,by have:=zc (zr dV (hat7 t htev)) (i:=3) (v:=u8 (m.base.ev[t]).v) rfl;exact this,l,rfl,hl6',zm k5 (hdr fV2) (o:=327+l*1) (v:=u8 (m.base.ev[t]).v) rfl rfl (by rw [zD];omega) rfl fun S fS gS sS=>?_⟩;rw [US,zrN _ _ _ hl6'] at fS;have gS2:V2.grownBy S (some M):=zd (zi dV) gS;refine nxI (by omega) ⟨l+1,(cvE rfl rfl),⟨hll,?_,by rw [<- hp7];exact qj oE2 fV2 (by decide) gS2,hbV2.trans (zk gS2 hbV2.size (by omega))⟩,zdc (by omega)⟩;rw [htk,hlV,<- hp7];exact fS
  have hc:¬ (l:Int)<(dl.length:Int):=dF hc;obtain rfl:l=dl.length:=by omega
  rw [JF (by omega)] at hP;have hcand:zw m ds={ RF with co:=P.1,mem:=P.2 }:=by
   rw [hP,hRF,hdle,hRs];rfl
  rw [<- hcand] at fZ;have oE:OwnS evE 49 Y2.heap.size Z q1 k1 (zw m ds).ev:=oE;refine⟨_,zc (za (zb hbZ fLY)) (i:=0) rfl,exC (zw m ds) q1 k1,zD _ _ _,za fZ,hlt fZ,?_⟩;have hjZ:=hJ.step _ _ _ _ hj (StepG.below hbZ);have hGv:∀ k,GvX [.agg (exC (zw m ds) q1 k1).toArray] k->Y2.heap.size<=k/\∃ a,q1=some a/\k=a.block:=by
   rintro k ⟨x,a,cc,he,rfl⟩;have h1:(exC (zw m ds) q1 k1).toArray=(exC x (some a) cc).toArray:=by
    have:=Jw he;exact Value.agg.inj this
   have h2:exC (zw m ds) q1 k1=exC x (some a) cc:=by simpa using h1
   have h3:Value.slice q1 (zw m ds).ev.length k1=Value.slice (some a) x.ev.length cc:=Jw h2;have h4:q1=some a:=by injection h3
   exact⟨(zx oE h4).1,a,h4,rfl⟩
  have hmp:(pre++[ds]).map (zw m)=pre.map (zw m)++[zw m ds]:=by rw [QL];rfl
  have hpm:(pre.map (zw m)++[zw m ds]) <+: zds m:=by
   obtain⟨t,ht⟩:=hpre;refine⟨t.map (zw m),?_⟩;unfold zds;rw [<- ht,QL,hmp]
  refine YieldR.mono (hy _ (zw m ds) [.agg (exC (zw m ds) q1 k1).toArray] F Z hjZ ⟨_,q1,k1,by simp,rfl,oE.lower (by omega)⟩ (fun k hk=>by have:=(hGv k hk).1;omega) hpm) ?_;rintro v U ⟨rfl,F',hjU,kU⟩;refine brF ?_;have kF:KeepsG F F' Y2 U:=⟨kU.os.trans hbZ.os,kU.tape.trans hbZ.tape,kU.output.trans hbZ.output,UI hbZ.size kU.size,fun k hk hf=>(kU.same k (by omega) (fun h=>h.elim hf fun h=>by have:=(hGv k h).1;omega)).trans (hbZ.block k hk),fun k hk=>by
   rcases kU.fp k hk with (h | h) | h
   ·exact .inl h
   ·exact .inr (hGv k h).1
   ·exact .inr (by omega)⟩
  refine⟨F',⟨by rw [hmp];exact hjU,?_⟩,kF⟩;rw [hKp];refine⟨UI hY2s kF.size,fun k h1 h2=>?_⟩;obtain⟨h3,h4⟩:=hkq k h1 h2;refine⟨(kF.same k (by omega) h4).trans h3,fun h=>?_⟩;rcases kF.fp k h with h | h
  ·exact h4 h
  ·omega
 ·rintro D F Y hD hfD ⟨hj,hk⟩ hdef;refine⟨_,rfl,hdef,⟨_,rfl⟩,F,?_⟩;show J ((qa (zL m)).map (zw m)) F _;exact hJ.step _ _ _ _ hj (.put (by omega) hfD _)
 ·rintro D ex pre F Y hD hfD hpre h;exact h.elim
end
end Go.Proofs.YtkpaomeeknegpaaGreatDoor
namespace Go.Sei
def isR (x : ExD) (i : Nat) : Bool := decide ((evA x i).k = 1)
def isW (x : ExD) (i : Nat) : Bool := decide ((evA x i).k = 2)
def zaj (x : ExD) (i : Nat) : Bool := isR x i || isW x i
def zh (r : RelD) (a b : Nat) : Bool := (r.to a).testBit b
def zfa (n : Nat) (p : Nat → Bool) : Nat := (List.range n).foldl (fun s b => if p b = true then s ||| 2 ^ b else s) 0
def zbM (n : Nat) (p : Nat → Nat → Bool) : RelD := jQ n fun a => zfa n (p a)
def z9 (r : RelD) (l : List RelD) : RelD := l.foldl (fun r o => (zaS r o).1) r
def frM (x : ExD) : RelD := (jk (zV x.rf) x.co).1
def zbu (x : ExD) (a b : Nat) : Bool := zaj x a && (zaj x b && decide ((evA x a).l = (evA x b).l))
def zbU (x : ExD) (r : RelD) : RelD := zbM r.n.toNat fun a b => zh r a b && !decide ((evA x a).th = (evA x b).th)
def zan (x : ExD) (md : UInt8) : Nat := ((List.range x.ev.length).filter fun i => decide ((evA x i).k = 3) && decide ((evA x i).m = md)).foldl (fun s i => s ||| 2 ^ i) 0
def zO (x : ExD) (md : UInt8) : RelD := (jk (jk x.po (idR x.ev.length (zan x md))).1 x.po).1
def zW (x : ExD) (a : Nat) (md : UInt8) : Bool := decide ((evA x a).m = md) || decide ((evA x a).m = 3)
def zai (x : ExD) (f : RelD) (a b : Nat) : Bool := zh f a b || (zW x a 3 || zW x b 3)
def zcZ (m : Nat) (x : ExD) (f l s : RelD) (a b : Nat) : Bool :=
  match m with
  | 1 => false
  | 2 => true
  | 3 => isR x a || (isW x b || zai x f a b)
  | 4 => isR x a || (zai x f a b || (isW x b && (zbu x a b || zh s a b)))
  | 5 => (isR x a && (zW x a 1 || zh l a b)) || ((isW x b && (zW x b 2 || zh s a b)) || zh f a b)
  | 6 => zh x.dt a b || ((zh x.ct a b && isW x b) || (zh x.rm a b || (zh f a b || ((zh l a b && (isR x a && isR x b)) || (zh s a b && (isW x a && isW x b))))))
  | _ => false
def jW (m : Nat) (x : ExD) : RelD := zbM x.ev.length fun a b => zh x.po a b && (zaj x a && (zaj x b && zcZ m x (zO x 3) (zO x 4) (zO x 5) a b))
def zaa (x : ExD) : RelD := zbM x.ev.length fun a b => zh x.po a b && zbu x a b
def j3 (m : Nat) (x : ExD) : Nat :=
  if zaw (z9 (zaa x) [x.rf, x.co, frM x]) = true then
    (if zbT (za5 x.rm (jk (frM x) x.co).1).1 = true then
      (if m = 1 then 0 else if zaw (z9 (jW m x) [if m = 2 then x.rf else zbU x x.rf, x.co, frM x]) = true then 0 else 3)
     else 2)
  else 1
def zab (m : Nat) : Bool := decide (1 ≤ m) && decide (m ≤ 6)
def zaY (m : Nat) (x : ExD) : Bool := zab m && (jb x && decide (j3 m x = 0))
def zfS (m : Nat) (x : ExD) : Nat := if zab m = true ∧ jb x = true then j3 m x else 0
theorem zoD {p:Nat->Bool} {n k:Nat} (hk:k<n) (h:p k=false):(List.range n).all p=false:=by
 rw [KJ];exact⟨k,Uj.2 hk,by rw [h];decide⟩
theorem zqy {p:Nat->Bool} {k:Nat} (h:(List.range k).all p=true) (hp:p k=true):(List.range (k+1)).all p=true:=by
 rw [QR,QE,h];simp [hp]
theorem j0 {a j:Nat}:(2^a).testBit j=decide (j=a):=by
 rw [Km];exact QB.2 ⟨fun e=>e.symm,fun e=>e.symm⟩
theorem zmK {a:Nat}:∀ (l:List Nat) (f:Nat->Nat) (b j:Nat),((l.foldl (fun f b=>upd f b (f b|||2^a)) f) b).testBit j=((f b).testBit j||(decide (b∈l)&&decide (j=a)))
 | [],f,b,j=>by simp
 | x::l,f,b,j=>by
  rw [QH,zmK l];by_cases hx:b=x
  ·subst hx;rw [zQ,Um,j0];by_cases hl:b∈l <;> by_cases hj:j=a <;> simp [hl,hj]
  ·rw [qz _ _ hx];simp [hx]
theorem zfB (tf:Nat->Nat):∀ (n b j:Nat),(zaC tf n b).testBit j=(decide (j<n)&&decide (b∈els (tf j)))
 | 0,b,j=>by
  show (0:Nat).testBit j=_;simp
 | n+1,b,j=>by
  have ih:=zfB tf n b j;unfold zaC at ih ⊢;rw [QR,KQ,QH,List.foldl_nil,zmK,ih];by_cases hj:j=n
  ·subst hj;simp
  ·by_cases h2:j<n
   ·rw [Un h2,Un (by omega:j<n+1),Uc hj];simp
   ·rw [Uc h2,Uc (by omega:¬ j<n+1),Uc hj];simp
theorem zlc {r:RelD} (h:okR r=true) {b j:Nat}:((zV r).to b).testBit j=(decide ((j:Int)<r.n)&&decide (b∈els (r.to j))):=by
 have hn:0<=r.n:=by
  unfold okR at h;rw [bAT,dE] at h;exact h.1
 have e:zV r=⟨r.n,zaC r.to r.n.toNat⟩:=Gi h;rw [e];show (zaC r.to r.n.toNat b).testBit j=_;rw [zfB];congr 1;exact QB.2 (by omega)
theorem zgi {s:Nat} (h0:s≠0) (h:s<2^64):ctz s∈els s:=by
 rw [(jO h0 h).1];exact Kx
end Go.Sei
namespace Go.Proofs.YtkpaomeeknegpaaGreatDoor
open Go.Vc Go.RowKit Go.Sei
section
variable {b c:Nat} {x:ExD} {q:OA} {w:Wd}
theorem zek {k:Nat}:x.ev.getD k ev0=evA x k:=rfl
theorem znX (fx:ExH w b x q c) (hv:ExW w x q) (hn:x.rf.n=x.ev.length) (hok:okR x.rf=true) (hT:Tz64M w):CB 44 #[At0 b] w (.bool (zaE x)):=by
 refine qk 72 [At0 b] (.s .p (.c .p .p)) Tryz.func44 ?_;obtain⟨from_,hfr⟩:∃ f,f=zV x.rf:=⟨_,rfl⟩;have hn20:=hv.n;refine⟨Nat,fun F=>⟨[(0,At0 b),(3,At0 F)],[]⟩,fun F X=>zY X F from_/\zJ from_.to/\w.heap.size<=F/\Bw w X,?_,?_⟩
 ·refine⟨zf x.rf,zg _,?_,hlt fx,?_⟩
  ·have h:=zP (n:=50) (m:=49) (za fx);obtain⟨A,T,hA,hE⟩:=zpY x q c;have e:=hE x.rf;have e2:(exC x q c).drop 50=zf x.rf++T:=by
    show (exC { x with rf:=x.rf } q c).drop 50=_;rw [e,<- hA,Ug]
   have e3:((exC x q c).toArray.toList.drop 50).take 49=zf x.rf:=by
    show ((exC x q c).drop 50).take 49=_;rw [e2,Jf (by rw [zg];decide),JF (by rw [zg];decide)]
   rw [e3] at h;exact h
  refine cmo (zhK hv.rf hT) ?_;rintro e Y ⟨rfl,hbY,hwr⟩;refine zo (X:=Y) (v := .agg (zf (zV x.rf)).toArray) k39 (zg _) (by kernel_rfl) (zE _) fun Z hbZ fZ sZ=>?_;rw [<- hfr] at fZ hwr;exact⟨Y.heap.size,(cvE rfl rfl),fZ,hwr,hbY.size,(zst hbY hbZ)⟩
 rintro F X ⟨fF,hwr,hF,hbX⟩;have bits:∀ i j,(from_.to i).testBit j=true->j<x.ev.length:=fun i j h=>by
  rw [hfr,zlc hok,bAT,dE,hn] at h;omega
 refine⟨_,zc (za (zb hbX fx)) (i:=0) rfl,Nat,fun k=>⟨[(0,At0 b),(3,At0 F),(18,.slice q x.ev.length c),(19,i64 x.ev.length),(20,i64 (k:Nat))],[]⟩,fun k X=>k<=x.ev.length/\(List.range k).all (fun i=>zb1 x (from_.to i) (evA x i))=true/\zY X F from_/\Bw w X,fun k=>x.ev.length-k,0,(cvE rfl rfl),⟨UU _,rfl,fF,hbX⟩,?_⟩;have hall:zaE x=(List.range x.ev.length).all fun i=>zb1 x (from_.to i) (evA x i):=by rw [hfr];rfl
 clear fF hbX;rintro k X ⟨hk,hgo,fF,hbX⟩;dsimp only;have hXs:=hbX.size;refine biE (fun hc=>?_) fun hc=>?_
 ·have hc:(k:Int)<(x.ev.length:Int):=dT hc;have hkl:k<x.ev.length:=by omega
  obtain⟨bq,oq,hqe,hb,hat⟩:=zch (hv.ev.below hbX) hkl;rw [zek] at hat;obtain⟨e,he⟩:=nm (evA x k);obtain⟨s,hs⟩:=nm (from_.to k);rw [<- he] at hat;have hs64:s<2^64:=by rw [hs];exact hwr k (by omega)
  have eq0:some (Value.slice q x.ev.length c)=some (Value.slice (some ⟨bq,oq,none⟩) x.ev.length c):=by rw [hqe]
  subst hqe;refine⟨k,rfl,hkl,evE.enc e,rfl,hat,hb,zo (X:=X) (v := .agg (evE.enc e).toArray) k49 rfl rfl (Qg.2 fun u hu=>evE.one e u hu) fun Y hbY fY sY=>?_⟩;have fY:Y.heap[X.heap.size]?=some (.cells (evE.enc e).toArray 49 (0,0)):=fY;have hbY2:=hbX.trans (hbY.mono hXs);have no:∀ {Z:Wd},Bw w Z->zb1 x s e=false->(Ending.returned (.bool false)=Ending.returned (.bool (zaE x))/\Bw w Z):=fun {Z} hb h=>⟨rb (by
   rw [hall];symm;exact zoD hkl (by rw [<- hs,<- he];exact h)),hb⟩
  have yes:∀ {Z:Wd},zY Z F from_->Bw w Z->zb1 x s e=true->(k+1<=x.ev.length/\(List.range (k+1)).all (fun i=>zb1 x (from_.to i) (evA x i))=true/\zY Z F from_/\Bw w Z):=fun {Z} f hb h=>⟨hkl,zqy hgo (by rw [<- hs,<- he];exact h),f,hb⟩;refine⟨k,rfl,by omega,?_⟩;refine⟨s64 s,by rw [hs];exact zaF (zb hbY fF) (by omega),u8 e.k,zc (za fY) (i:=1) rfl,biE (fun h=>?_) fun h=>?_⟩
  ·have h:¬ e.k=1:=by
    have h:(!decide ((e.k.toNat:Int)=((1:UInt8).toNat:Int)))=true:=h;intro e2;rw [e2] at h;simp at h
   have hone:zb1 x s e=decide (s=0):=Gh h;refine biE (fun h2=>?_) fun h2=>?_
   ·have h2:¬ s=0:=by
     have h2:(!decide ((s:Int)=0))=true:=h2;intro e2;rw [e2] at h2
     cases h2
    exact no hbY2 (by rw [hone];exact Uc h2)
   ·have h2:s=0:=by
     have h2:(!decide ((s:Int)=0))=false:=h2;have h2:(s:Int)=0:=(by simpa using h2);omega
    exact nxI (by omega) ⟨k+1,(cvE rfl rfl),yes (zb hbY fF) hbY2 (by rw [hone];exact Un h2),zdc (by omega)⟩
  have h:e.k=1:=by
   have h:(!decide ((e.k.toNat:Int)=((1:UInt8).toNat:Int)))=false:=h;exact qq.1 (by simpa using h)
  refine cmo (za2 hs64 (hT.below hbY2)) ?_;rintro e2 Z ⟨rfl,hbZ⟩;have hYs:=hbY2.size;have hbZ2:=hbY2.trans (hbZ.mono hYs);have fZ:=zb hbZ fY;have fFZ:=zb hbZ (zb hbY fF);by_cases hs0:s=0
  ·have e1:(els s).isEmpty=true:=by rw [hs0];rfl
   rw [e1];refine brT (brT (no hbZ2 ?_));unfold zb1;rw [Gi h,Gi hs0]
  obtain⟨hd,hem⟩:=zbQ hs0 hs64;rw [hd,hem];have hmem:=zgi hs0 hs64;have hbit:s.testBit (ctz s)=true:=(qM.1 hmem).2;have hwl:ctz s<x.ev.length:=bits k _ (by rw [<- hs];exact hbit);refine brF ⟨by omega,((2^ctz s:Nat):Int),jX (e:=ctz s) (by omega),biE (fun h2=>?_) fun h2=>?_⟩
  ·have h2:¬ s=2^ctz s:=by
    have h2:(!decide ((s:Int)=((2^ctz s:Nat):Int)))=true:=h2;intro e2;rw [<- e2] at h2;simp at h2
   refine no hbZ2 ?_;unfold zb1;rw [Gi h,Gh hs0,Gh h2]
  have h2:s=2^ctz s:=by
   have h2:(!decide ((s:Int)=((2^ctz s:Nat):Int)))=false:=h2;have h2:(s:Int)=((2^ctz s:Nat):Int):=by simpa using h2
   exact Uu h2
  obtain⟨t,ht⟩:=nm (ctz s);rw [<- ht] at hwl h2 ⊢;obtain⟨bq2,oq2,hqe2,hb2,hat2⟩:=zch (hv.ev.below hbZ2) hwl;rw [zek] at hat2;obtain⟨f,hf⟩:=nm (evA x t);rw [<- hf] at hat2;have hone:zb1 x s e=(decide (f.k=2)&&(decide (f.l=e.l)&&decide (f.v=e.v))):=by
   unfold zb1;rw [Gi h,Gh hs0,<- ht,Gi h2,<- hf]
  refine⟨_,zc (za (zb hbZ2 fx)) (i:=0) rfl,t,rfl,hwl,?_⟩;refine⟨evE.enc f,rfl,by
   simp only [KW,Up,Gc] at hqe2;rw [hqe2.1,hqe2.2];exact hat2,by
   simp only [KW,Up,Gc] at hqe2;rw [hqe2.1];exact hb2,?_⟩
  refine zo (X:=Z) (v := .agg (evE.enc f).toArray) k49 rfl rfl (Qg.2 fun u hu=>evE.one f u hu) fun V hbV fV sV=>?_;have fV:V.heap[Z.heap.size]?=some (.cells (evE.enc f).toArray 49 (0,0)):=fV;have hbV2:=zst hbZ2 hbV;have fe:=zb hbV fZ;have fFV:=zb hbV fFZ;have n8:∀ {a d:UInt8},(!decide ((a.toNat:Int)=(d.toNat:Int)))=true->¬ a=d:=fun {a d} h e2=>by
   rw [e2] at h;simp at h
  have y8:∀ {a d:UInt8},(!decide ((a.toNat:Int)=(d.toNat:Int)))=false->a=d:=fun {a d} h=>qq.1 (by simpa using h);refine⟨u8 f.k,zc (za fV) (i:=1) rfl,biE (fun h3=>?_) fun h3=>?_⟩
  ·have h3:¬ f.k=2:=n8 (d:=2) h3;exact brT (brT (no hbV2 (by rw [hone,Uc h3];rfl)))
  have h3:f.k=2:=y8 (d:=2) h3;refine⟨u8 f.l,zc (za fV) (i:=2) rfl,u8 e.l,zc (za fe) (i:=2) rfl,biE (fun h4=>?_) fun h4=>?_⟩
  ·have h4:¬ f.l=e.l:=n8 h4;exact brT (no hbV2 (by rw [hone,Uc h4,Ue,Ud]))
  have h4:f.l=e.l:=y8 h4;refine⟨u8 f.v,zc (za fV) (i:=3) rfl,u8 e.v,zc (za fe) (i:=3) rfl,biE (fun h5=>?_) fun h5=>?_⟩
  ·have h5:¬ f.v=e.v:=n8 h5;exact no hbV2 (by rw [hone,Uc h5,Ud,Ud])
  have h5:f.v=e.v:=y8 h5;exact nxI (by omega) ⟨k+1,(cvE rfl rfl),yes fFV hbV2 (by rw [hone,Un h3,Un h4,Un h5];rfl),zdc (by omega)⟩
 ·have hc:¬ (k:Int)<(x.ev.length:Int):=dF hc;obtain rfl:k=x.ev.length:=by omega
  exact⟨rb (by rw [hall];exact hgo.symm),hbX⟩
end
theorem ztQ {bx n:Nat} {w:Wd} {i:Nat} (f:w.heap[bx]?=some (.cells #[i64 (n:Nat)] 3 (0,0))) (hn:n<=1000):Calls PG 117 #[i64 (i:Nat),At0 bx] w fun e w'=>e = .returned (.bool true)/\w'.heap[bx]?=some (.cells #[i64 (n+1:Nat)] 3 (0,0))/\w.grownBy w' (some bx):=by
 refine zF 6 [i64 (i:Nat),At0 bx] Tryz.func117 ?_;exact⟨_,zc (za f) (i:=0) rfl,nxI (by omega) (zm k3 f (o:=0) (v:=i64 (n+1:Nat)) rfl rfl (by show 0<1;decide) rfl fun w' f' g' s'=>⟨rfl,f',g'⟩)⟩
theorem zkQ {bs bx s:Nat} {w:Wd} (fs:w.heap[bs]?=some (.cells #[s64 s] 36 (0,0))) (fx:w.heap[bx]?=some (.cells #[i64 (0:Nat)] 3 (0,0))) (hs:s<2^64) (hT:Tz64M w) (hbx:1≠bx) :
  Calls PG 157 #[.func (.func 117) #[] #[At0 bx],At0 bs] w fun e w'=>(∃ v,e = .returned v)/\w'.heap[bx]?=some (.cells #[i64 (zbO s:Nat)] 3 (0,0))/\w.grownBy w' (some bx):=by
 refine zF 16 [.func (.func 117) #[] #[At0 bx],At0 bs] Tryz.func157 ?_;refine⟨_,zc (za fs) (i:=0) rfl,Nat×Nat,fun q=>⟨[(0,.func (.func 117) #[] #[At0 bx]),(3,s64 q.2)],[]⟩,fun q X=>X.heap[bx]?=some (.cells #[i64 (q.1:Nat)] 3 (0,0))/\q.1+zbO q.2=zbO s/\q.2<2^64/\w.grownBy X (some bx),fun q=>q.2,(0,s),(cvE rfl rfl),⟨fx,UM _,hs,qg _ _⟩,?_⟩;rintro⟨n,r⟩ X ⟨f,hn,hr,gX⟩;dsimp only at f hn hr ⊢;have hls:=zeU s;refine biE (fun hc=>?_) fun hc=>?_
 ·have hc:(!decide ((r:Int)=0))=true:=hc;have hc:¬ (r:Int)=0:=by simpa using hc
  have hr0:r≠0:=by omega
  obtain⟨e1,e2,_,_⟩:=jO hr0 hr;have hl:zbO r=zbO (qp r)+1:=by unfold zbO;rw [e1];rfl
  have hTX:Tz64M X:=zal hT (gX.block _ (zaT hT) (by simpa using hbx));refine cmo (zoS hTX hr0 hr) ?_;rintro e _ ⟨rfl,rfl⟩;have hn64:n<=1000:=by unfold zbO at hn;omega
  refine cmo (ztQ f hn64) ?_;rintro e V ⟨rfl,fV,gV⟩;exact brF ⟨((r-1:Nat):Int),(zaQ (a:=(r:Int)-1) (by omega)).trans (by omega),((qp r:Nat):Int),jY (a:=r) (b:=r-1) hr (by omega),(n+1,qp r),(cvE rfl rfl),⟨fV,by show n+1+zbO (qp r)=_;omega,by show qp r<_;omega,zd gX gV⟩,e2⟩
 ·have hc:(!decide ((r:Int)=0))=false:=hc;have hc:(r:Int)=0:=by simpa using hc
  obtain rfl:r=0:=by omega
  have h0:zbO 0=0:=rfl;rw [h0,UH] at hn;exact⟨⟨_,rfl⟩,by rw [<- hn];exact f,gX⟩
theorem zsJ {s:Nat} {w:Wd} (hs:s<2^64) (hT:Tz64M w):CB 86 #[s64 s] w (i64 (zbO s:Nat)):=by
 refine qk 11 [s64 s] (.s .p (.c .p .p)) Tryz.func86 ?_;obtain⟨L,hL⟩:=nm (w.heap.size);refine⟨Unit,fun _=>⟨[(0,s64 s),(3,At0 L)],[]⟩,fun _ Y=>Y.heap[L]?=some (.cells #[i64 (0:Nat)] 3 (0,0))/\Y.heap.size=L+1/\Bw w Y,?_,?_⟩
 ·refine zo (X:=w) (v:=i64 0) k3 rfl rfl rfl fun Y hbY fY sY=>?_;have fY:Y.heap[w.heap.size]?=some (.cells #[i64 (0:Nat)] 3 (0,0)):=fY;exact⟨(),⟨.cons rfl (.cons (by rw [hL];rfl) .nil),rfl⟩,by rw [hL];exact fY,by rw [hL];exact sY,hbY⟩
 rintro _ Y ⟨fY,sY,hbY⟩;refine cmo zhu ?_;rintro e _ ⟨rfl,rfl⟩;have hb2:Bw Y (Y.alloc (.cells #[s64 s] 36)):=zba _ _;have htl:=zaT hT;refine cmo (zkQ (zy Y _) (zb hb2 fY) hs ((hT.below hbY).below hb2) (by omega)) ?_;rintro e Z ⟨⟨v,rfl⟩,fZ,gZ⟩;exact⟨_,zc (za fZ) (i:=0) rfl,rfl,((zst hbY hb2)).trans (zk gZ (by have:=hbY.size;have:=hb2.size;omega) (by omega))⟩
def zju (x y:Nat):Int:=if x<y then -1 else if y<x then 1 else 0
theorem zpw {x:Nat} {w:Wd}:Calls PG 116 #[i64 (x:Nat)] w fun e w'=>e = .returned (.bool false)/\w=w':=by
 refine zF 6 [i64 (x:Nat)] Tryz.func116 ?_;exact⟨rb (by simp),rfl⟩
theorem zmp {x y:Nat} {w:Wd}:Calls PG 85 #[i64 (x:Nat),i64 (y:Nat)] w fun e w'=>e = .returned (i64 (zju x y))/\w=w':=by
 refine zF 20 [i64 (x:Nat),i64 (y:Nat)] Tryz.func85 ?_;refine cmo zpw ?_;rintro e _ ⟨rfl,rfl⟩;refine cmo zpw ?_;rintro e _ ⟨rfl,rfl⟩;refine brF (brF (biE (fun h=>?_) fun h=>?_))
 ·have h:(x:Int)<y:=dT h;exact⟨ri (by unfold zju;rw [Gi (by omega)]),rfl⟩
 have h:¬ (x:Int)<y:=dF h;refine biE (fun h2=>?_) fun h2=>?_
 ·have h2:(y:Int)<x:=dT h2;exact⟨ri (by unfold zju;rw [Gh (by omega),Gi (by omega)]),rfl⟩
 ·have h2:¬ (y:Int)<x:=dF h2;exact⟨ri (by unfold zju;rw [Gh (by omega),Gh (by omega)]),rfl⟩
section
variable {b c L:Nat} {x:ExD} {q:OA} {w:Wd}
theorem zqe {X:Wd} (fx:ExH X b x q c) {i:Nat} (hi:i<48):X.cell? ⟨b,0+99+1+i*1,none⟩=some (s64 (x.co.to i)):=by
 obtain⟨A,T,hA,hE⟩:=zl7 x q c;have hR:RelAt X b 99 46 A T x.co:=⟨hA,by rw [<- hE];exact fx⟩;exact hR.cell hi
theorem ztG {u v:Nat} (fx:ExH w b x q c) (fL:w.heap[L]?=some (.cells #[At0 b] 81 (0,0))) (hco:zJ x.co.to) (hu:u<48) (hv:v<48) (hT:Tz64M w) :
  CB 84 #[i64 (u:Nat),i64 (v:Nat),At0 L] w (i64 (zju (zbO (x.co.to v)) (zbO (x.co.to u)))):=by
 refine zF 23 [i64 (u:Nat),i64 (v:Nat),At0 L] Tryz.func84 ?_;refine DrawE.ord [] [0,1,2,3,4,5,6,8,9,10,11,12,13,14,7,15,16,17] (by kernel_rfl) ?_;have hd:Bw w w.drew:=(UW _ _).drew;refine⟨_,zc (za (hdr fL)) (i:=0) rfl,v,rfl,hv,_,zqe (hdr fx) hv,_,zc (za (hdr fL)) (i:=0) rfl,u,rfl,hu,_,zqe (hdr fx) hu,cmo (zsJ (hco v hv) (hT.below hd)) ?_⟩;rintro e X ⟨rfl,hbX⟩;refine⟨hbX,cmo (zsJ (hco u hu) ((hT.below hd).below hbX)) ?_⟩;rintro e Y ⟨rfl,hbY⟩;refine⟨hbY,cmo zmp ?_⟩;rintro e _ ⟨rfl,rfl⟩;exact⟨UW _ _,rfl,(hd.trans hbX).trans (hbY.mono hbX.size)⟩
end
theorem zhi {key:Nat->Nat} {x:Nat}:∀ (B A:List Nat),(∀ y∈B,key y<key x)->jg key (B++A) x=B++jg key A x
 | [],A,_=>rfl
 | y::B,A,h=>by
  show (if key y<key x then y::jg key (B++A) x else x::y::(B++A))=_;rw [Gi (h y Kx),zhi B A fun z hz=>h z (JW _ hz)];rfl
theorem zhh {key:Nat->Nat} {x:Nat}:∀ r:List Nat,(jg key r x).length=r.length+1
 | []=>rfl
 | y::r=>by
  unfold jg
  split
  ·show (jg key r x).length+1=_;rw [zhh r];rfl
  ·rfl
theorem zeg {key:Nat->Nat} {x a:Nat}:∀ r:List Nat,a∈jg key r x↔a=x\/a∈r
 | []=>by simp [jg]
 | y::r=>by
  unfold jg
  split
  ·rw [Uy,zeg r,Uy];constructor
   ·rintro (h | h | h) <;> simp [h]
   ·rintro (h | h | h) <;> simp [h]
  ·simp
def zcm (key:Nat->Nat) (l:List Nat):List Nat:=l.foldl (fun acc x=>jg key acc x) []
theorem zlu (key:Nat->Nat) (l:List Nat) (x:Nat):zcm key (l++[x])=jg key (zcm key l) x:=by
 unfold zcm;rw [KQ];rfl
theorem zce {key:Nat->Nat} {a:Nat}:∀ (l acc:List Nat),a∈l.foldl (fun acc x=>jg key acc x) acc↔a∈l\/a∈acc
 | [],acc=>by simp
 | x::l,acc=>by
  rw [QH,zce l,zeg,Uy];constructor
  ·rintro (h | h | h) <;> simp [h]
  ·rintro ((h | h) | h) <;> simp [h]
theorem zcf {key:Nat->Nat}:∀ (l acc:List Nat),(l.foldl (fun acc x=>jg key acc x) acc).length=l.length+acc.length
 | [],acc=>by simp
 | x::l,acc=>by
  rw [QH,zcf l,zhh,Qp];omega
theorem zh9 {key:Nat->Nat} {l:List Nat} {a:Nat}:a∈zc9 key l↔a∈l:=by
 unfold zc9;rw [List.mem_reverse,zce];simp
theorem znK {key:Nat->Nat} (l:List Nat):(zc9 key l).length=l.length:=by
 unfold zc9;rw [Kh,zcf];rfl
section
variable {b c L g cap:Nat} {x:ExD} {q:OA} {w:Wd} {l:List Nat}
abbrev zbP (x:ExD):Nat->Nat:=fun i=>zbO (x.co.to i)
theorem zhg {B:Nat} (ho:OwnS zC 3 B w (some ⟨g,0,none⟩) cap l) (fx:ExH w b x q c) (fL:w.heap[L]?=some (.cells #[At0 b] 81 (0,0))) (hT:Tz64M w) (htg:1≠g) (hco:zJ x.co.to) (h48:∀ a∈l,a<48) (hn:l.length<=20) (hn1:1<=l.length) :
  Calls PG 159 #[.slice (some ⟨g,0,none⟩) l.length cap,i64 0,i64 l.length,.func (.func 84) #[] #[At0 L]] w fun e w'=>e = .returned (.tuple #[])/\OwnS zC 3 B w' (some ⟨g,0,none⟩) cap (zc9 (zbP x) l)/\w.grownBy w' (some g):=by
 refine qk 53 [.slice (some ⟨g,0,none⟩) l.length cap,i64 0,i64 l.length,.func (.func 84) #[] #[At0 L]] (.c .p .p) Tryz.func159 ?_;obtain⟨E0,hE0⟩:∃ E0:List (Nat×Value),E0=[(0,.slice (some ⟨g,0,none⟩) l.length cap),(1,i64 0),(2,i64 l.length),(3,.func (.func 84) #[] #[At0 L])]:=⟨_,rfl⟩;have hbg:b≠g:=fun e=>by
  obtain⟨_,_,cur,hc⟩:=zx ho rfl;have hc:w.heap[g]?=_:=hc;rw [<- e,fx] at hc;simp at hc
 have hLg:L≠g:=fun e=>by
  obtain⟨_,_,cur,hc⟩:=zx ho rfl;have hc:w.heap[g]?=_:=hc;rw [<- e,fL] at hc;simp at hc
 refine⟨Unit,fun _=>⟨[(0,.slice (some ⟨g,0,none⟩) l.length cap),(1,i64 0),(2,i64 l.length),(3,.func (.func 84) #[] #[At0 L]),(8,i64 1)],[]⟩,fun _ X=>w=X,?_,?_⟩
 ·exact⟨1,ze (by omega),(),(cvE rfl rfl),rfl⟩
 rintro _ _ rfl;have hl0:l.take 1=(zcm (zbP x) (l.take 1)).reverse:=by
  cases l with
  | nil=>simp at hn1
  | cons a l=>rfl
 refine⟨Nat,fun i=>⟨[(0,.slice (some ⟨g,0,none⟩) l.length cap),(1,i64 0),(2,i64 l.length),(3,.func (.func 84) #[] #[At0 L]),(8,i64 (i:Nat))],[]⟩,fun i X=>(1<=i/\i<=l.length)/\OwnS zC 3 B X (some ⟨g,0,none⟩) cap ((zcm (zbP x) (l.take i)).reverse++l.drop i)/\w.grownBy X (some g),fun i=>l.length-i,1,
  (cvE rfl rfl),⟨⟨UR _,hn1⟩,by rw [<- hl0,JP];exact ho,qg _ _⟩,?_⟩
 rintro i X ⟨⟨hi1,hi⟩,oX,gX⟩;dsimp only;refine biE (fun hc=>?_) fun hc=>?_
 ·have hc:(i:Int)<(l.length:Int):=dT hc;have hil:i<l.length:=by omega
  obtain⟨u,hu⟩:∃ u,l[i]=u:=⟨_,rfl⟩;have hum:u∈l:=by rw [<- hu];exact gM hil
  obtain⟨S,hS⟩:=nm (zcm (zbP x) (l.take i));have hSm:∀ a∈S,a<48:=fun a ha=>by
   rw [hS] at ha;have:=(zce (key:=zbP x) (l.take i) []).1 ha;rcases this with h | h
   ·exact h48 a (JZ h)
   ·cases h
  have hSl:S.length=i:=by
   rw [hS];unfold zcm;rw [zcf,Qr];simp;omega
  have htk:zcm (zbP x) (l.take (i+1))=jg (zbP x) S u:=by
   rw [tsg hil,hu,zlu,<- hS]
  rw [<- hS,<- JE hil,hu] at oX;refine⟨List Nat×List Nat,fun s=>⟨[(0,.slice (some ⟨g,0,none⟩) l.length cap),(1,i64 0),(2,i64 l.length),(3,.func (.func 84) #[] #[At0 L]),(8,i64 (i:Nat)),(9,i64 s.1.length)],[]⟩,fun s Y=>S.reverse=s.1++s.2/\(∀ y∈s.2,zbP x y<zbP x u)/\OwnS zC 3 B Y (some ⟨g,0,none⟩) cap (s.1++u::(s.2++l.drop (i+1)))/\w.grownBy Y (some g),fun s=>s.1.length,(S.reverse,[]),
   ⟨.cons rfl (.cons rfl (.cons rfl (.cons rfl (.cons rfl (.cons (by show _=some (i64 (S.reverse.length:Nat));rw [Kh,hSl];rfl) .nil))))),rfl⟩,⟨by rw [QF],fun y hy=>(by cases hy),oX,gX⟩,?_⟩
  clear oX gX;rintro⟨A,Bs⟩ Y ⟨hsp,hkB,oY,gY⟩;dsimp only at hsp hkB oY ⊢;have hAl:A.length<=i:=by
   have:=Gd List.length hsp;rw [Kh,hSl,lap] at this;omega
  have hdY:Bw Y Y.drew:=(UW _ _).drew;have fin:∀ {Z:Wd},Bw Y Z->jg (zbP x) A.reverse u=u::A.reverse->((1<=i+1/\i+1<=l.length)/\OwnS zC 3 B Z (some ⟨g,0,none⟩) cap ((zcm (zbP x) (l.take (i+1))).reverse++l.drop (i+1))/\w.grownBy Z (some g)):=fun {Z} hb hins=>by
   refine⟨⟨by omega,hil⟩,?_,jq gY (hb.mono gY.size)⟩;have h1:S=Bs.reverse++A.reverse:=by rw [<- Kk,<- hsp,Ka]
   rw [htk,h1,zhi _ _ (fun y hy=>hkB y (by simpa using hy)),hins];have h2:(Bs.reverse++u::A.reverse).reverse++l.drop (i+1)=A++u::(Bs++l.drop (i+1)):=by simp
   rw [h2];exact oY.below hb
  refine DrawE.ord [] [0,1,2,3,4,5,6,7,8,9,10,11,12,13,14,15,16] (by kernel_rfl) (biE (fun h=>?_) fun h=>?_)
  ·have h:(0:Int)<(A.length:Int):=dT h;obtain⟨A',y,hA⟩:∃ A' y,A=A'++[y]:=by
    refine⟨A.dropLast,A.getLast (fun e=>by rw [e] at h;simp at h),(List.dropLast_concat_getLast _).symm⟩
   subst hA;have hA'l:(A'++[y]).length=A'.length+1:=by simp
   rw [hA'l] at hAl h ⊢;have hrl:((A'++[y])++u::(Bs++l.drop (i+1))).length=l.length:=by
    have:=Gd List.length hsp;rw [Kh,hSl] at this;simp only [lap,Qp,QJ,Qq] at this ⊢;omega
   have hyS:y<48:=hSm y (by
    have:y∈S.reverse:=(by rw [hsp];simp);simpa using this)
   obtain⟨b',o',hq',hb',hat'⟩:=oY.row.at (i:=A'.length) (by rw [hrl];omega);have hbo:b'=g/\o'=0:=by simpa using hq'.symm
   obtain⟨rfl,rfl⟩:=hbo;have c1:Y.cell? ⟨b',0+(A'.length+1)*1,none⟩=some (i64 u):=by
    have:=zc (hat' (A'.length+1) (by rw [hrl];omega)) (i:=0) (v:=i64 u) (by
     have e:((A'++[y])++u::(Bs++l.drop (i+1)))[A'.length+1]?=some u:=by
      rw [Jm (by simp),hA'l,UK];rfl
     rw [gE (by rw [hrl];omega)] at e;rw [Ua e];rfl)
    exact this
   have c2:Y.cell? ⟨b',0+A'.length*1,none⟩=some (i64 y):=by
    have:=zc (hat' A'.length (by rw [hrl];omega)) (i:=0) (v:=i64 y) (by
     have e:((A'++[y])++u::(Bs++l.drop (i+1)))[A'.length]?=some y:=by
      rw [KL,Jm (UR _),UK];rfl
     rw [gE (by rw [hrl];omega)] at e;rw [Ua e];rfl)
    exact this
   refine⟨A'.length+1,rfl,by omega,?_⟩;refine⟨_,c1,(A'.length:Nat),(ze (by omega)).trans (by omega),A'.length,rfl,by omega,?_⟩;refine⟨_,c2,?_⟩;have fxY:ExH Y b x q c:=(gY.block b (hlt fx) (by simpa using hbg)).trans fx;have fLY:Y.heap[L]?=some (.cells #[At0 b] 81 (0,0)):=(gY.block L (hlt fL) (by simpa using hLg)).trans fL;have hTY:Tz64M Y:=zal hT (gY.block _ (zaT hT) (by simpa using htg));refine cmo (ztG (hdr fxY) (hdr fLY) hco (h48 u hum) hyS (hTY.below hdY)) ?_;rintro e Z ⟨rfl,hbZ⟩;refine⟨hbZ,?_⟩;have hYZ:=hdY.trans hbZ;refine biE (fun hm=>?_) fun hm=>?_
   ·have hm:zju (zbO (x.co.to y)) (zbO (x.co.to u))<0:=dT hm;have hk:zbP x y<zbP x u:=by
     unfold zju at hm;by_cases h1:zbO (x.co.to y)<zbO (x.co.to u)
     ·exact h1
     ·rw [Gh h1] at hm
      split at hm <;> omega
    have oZ:=oY.below hYZ;have gZ:=jq gY (hYZ.mono gY.size);obtain⟨b2,o2,hq2,hb2,hat2⟩:=oZ.row.at (i:=A'.length) (by rw [hrl];omega);have hbo2:b2=b'/\o2=0:=(by simpa using hq2.symm);obtain⟨rfl,rfl⟩:=hbo2;have dZ:Bw Z Z.drew:=(UW _ _).drew;have d1:=zcV hYZ c1;have d2:=zcV hYZ c2;refine DrawE.ord [15,17] [0,1,2,3,4,5,6,7,8,9,10,11,12,13,14,15,16,17] (by kernel_rfl) ⟨(A'.length:Nat),(ze (by omega)).trans (by omega),(A'.length:Nat),(ze (by omega)).trans (by omega),A'.length,rfl,by omega,?_⟩;refine⟨_,d2,A'.length+1,rfl,by omega,?_⟩;refine⟨_,d1,A'.length+1,rfl,by omega,?_⟩;refine zja (i:=A'.length+1) (v:=y) k3 rfl (oZ.below dZ) (by rw [hrl];omega) fun V oV gV=>⟨A'.length,rfl,by omega,?_⟩;refine zja (i:=A'.length) (v:=u) k3 rfl oV (by rw [QK,hrl];omega) fun U oU gU=>?_;have e1:(((A'++[y])++u::(Bs++l.drop (i+1))).set (A'.length+1) y).set A'.length u=A'++u::((y::Bs)++l.drop (i+1)):=by
     rw [KL,JO _ _ (by omega),Jy,JO _ _ (by omega),UK];rfl
    rw [e1] at oU;refine⟨(A'.length:Nat),(ze (by omega)).trans (by omega),(A',y::Bs),(cvE rfl rfl),⟨by rw [hsp];simp,fun z hz=>?_,oU,zd (zd (jq gZ (dZ.mono gZ.size)) gV) gU⟩,by show A'.length<_;omega⟩;rcases Uy.1 hz with hz | hz
    ·rw [hz];exact hk
    ·exact hkB z hz
   ·have hm:¬ zju (zbO (x.co.to y)) (zbO (x.co.to u))<0:=dF hm;have hk:¬ zbP x y<zbP x u:=fun h=>hm (by unfold zju;rw [Gi h];decide);refine nxI (by omega) ⟨i+1,(cvE rfl rfl),fin hYZ ?_,zdc (by omega)⟩;rw [Kk];exact Gh hk
  ·have h:¬ (0:Int)<(A.length:Int):=dF h;have hA0:A=[]:=List.length_eq_zero_iff.1 (by omega);subst hA0;exact brF (nxI (by omega) ⟨i+1,(cvE rfl rfl),fin hdY rfl,zdc (by omega)⟩)
 ·have hc:¬ (i:Int)<(l.length:Int):=dF hc;obtain rfl:i=l.length:=by omega
  rw [Qt,Qj,QF] at oX;exact⟨rfl,oX,gX⟩
end
theorem zt5:∃ G,TyEq PG 42 true 6 2 G/\∀ f:Nat->UInt8,G (seg 6 fun i=>u8 (f i)):=by
 refine⟨_,.array (m:=6) (by decide) Tryz.underlying42 (fun w=>Tryz.isAgg42 w) (jN (by kernel_rfl) (by kernel_rfl)).1 (by kernel_rfl) tU8,fun f i hi=>⟨((f i).toNat:Int),?_⟩⟩;unfold qQ;have h:=zcI (n:=6) (fun i=>u8 (f i)) hi;rw [US];have hl:i<(seg 6 fun i=>u8 (f i)).length:=by rw [zG];exact hi
 rw [<- JE hl,List.take_succ_cons,Uk];rw [gE hl] at h;rw [Ua h];rfl
theorem zpC {f g:Nat->UInt8}:seg 6 (fun i=>u8 (f i))=seg 6 (fun i=>u8 (g i))↔((List.range 6).all fun l=>decide (f l=g l))=true:=by
 rw [Qg];constructor
 ·intro h i hi;have hi:=Uj.1 hi;have h3:=zcI (n:=6) (fun i=>u8 (f i)) hi;rw [h,zcI (n:=6) (fun i=>u8 (g i)) hi] at h3;have h4:=Ua h3;unfold u8 at h4;injection h4 with _ h5;exact Un (qq.1 h5).symm
 ·intro h;unfold seg;refine Ki fun i hi=>?_;rw [dT (h i hi)]
theorem zp1 (x y:Operand) (f g:Nat->UInt8) (w:Wd):(do eqGuard .eql 42 x y (.agg (seg 6 fun i=>u8 (f i)).toArray) (.agg (seg 6 fun i=>u8 (g i)).toArray);binOp .eql 42 (.agg (seg 6 fun i=>u8 (f i)).toArray) (.agg (seg 6 fun i=>u8 (g i)).toArray)).run PG w = .ok (.bool ((List.range 6).all fun l=>decide (f l=g l))) w:=by
 obtain⟨G,h1,h2⟩:=zt5;have:=zl8 h1 9998 rfl (by kernel_rfl) (zG 6 _) (zG 6 _) (h2 f) (h2 g) x y w;rw [this,zeY zpC,Bool.decide_eq_true]
section
variable {b c L g cap:Nat} {x:ExD} {q:OA} {w:Wd} {l:List Nat}
theorem zjU {B:Nat} (ho:OwnS zC 3 B w (some ⟨g,0,none⟩) cap l) (fx:ExH w b x q c) (fL:w.heap[L]?=some (.cells #[At0 b] 81 (0,0))) (hT:Tz64M w) (htg:1≠g) (hco:zJ x.co.to) (h48:∀ a∈l,a<48) (hn:l.length<=19) (hn1:1<=l.length) :
  Calls PG 115 #[.slice (some ⟨g,0,none⟩) l.length cap,i64 l.length,.func (.func 84) #[] #[At0 L]] w fun e w'=>e = .returned (.tuple #[])/\OwnS zC 3 B w' (some ⟨g,0,none⟩) cap (zc9 (zbP x) l)/\w.grownBy w' (some g):=by
 refine zF 63 [.slice (some ⟨g,0,none⟩) l.length cap,i64 l.length,.func (.func 84) #[] #[At0 L]] Tryz.func115 ?_;refine⟨Unit,fun _=>⟨[(0,.slice (some ⟨g,0,none⟩) l.length cap),(1,i64 l.length),(2,.func (.func 84) #[] #[At0 L]),(6,i64 20),(7,i64 0),(8,i64 20)],[]⟩,fun _ X=>w=X,fun _=>0,(),(cvE rfl rfl),rfl,?_⟩;rintro _ _ rfl;refine brN (Uc (by omega)) (cmo (zhg ho fx fL hT htg hco h48 (by omega) hn1) ?_);rintro e X ⟨rfl,oX,gX⟩;refine⟨Unit,fun _=>⟨[(1,i64 l.length),(6,i64 20)],[]⟩,fun _ Y=>X=Y,fun _=>0,(),(cvE rfl rfl),rfl,?_⟩;rintro _ _ rfl;exact brN (Uc (by omega)) ⟨rfl,oX,gX⟩
theorem zlX {q:OA} {n m:Nat} (hm:m<=1000):Calls PG 159 #[.slice q n cap,i64 (m:Nat),i64 (m:Nat),.func (.func 84) #[] #[At0 L]] w fun e w'=>e = .returned (.tuple #[])/\w=w':=by
 refine zF 53 [.slice q n cap,i64 (m:Nat),i64 (m:Nat),.func (.func 84) #[] #[At0 L]] Tryz.func159 ?_;refine nxI (by omega) ⟨Unit,fun _=>⟨[(2,i64 (m:Nat)),(8,i64 ((m+1:Nat):Int))],[]⟩,fun _ X=>w=X,fun _=>0,(),(cvE rfl rfl),rfl,?_⟩;rintro _ _ rfl;exact brN (Uc (by omega)) ⟨rfl,rfl⟩
theorem znH {B:Nat} (ho:OwnS zC 3 B w (some ⟨g,0,none⟩) cap l) (fx:ExH w b x q c) (fL:w.heap[L]?=some (.cells #[At0 b] 81 (0,0))) (hT:Tz64M w) (htg:1≠g) (hco:zJ x.co.to) (h48:∀ a∈l,a<48) (hn:l.length<=20) (hn1:1<=l.length) :
  Calls PG 115 #[.slice (some ⟨g,0,none⟩) l.length cap,i64 l.length,.func (.func 84) #[] #[At0 L]] w fun e w'=>e = .returned (.tuple #[])/\OwnS zC 3 B w' (some ⟨g,0,none⟩) cap (zc9 (zbP x) l)/\w.grownBy w' (some g):=by
 by_cases h19:l.length<=19
 ·exact zjU ho fx fL hT htg hco h48 h19 hn1
 have hn20:l.length=20:=by omega
 refine zF 63 [.slice (some ⟨g,0,none⟩) l.length cap,i64 l.length,.func (.func 84) #[] #[At0 L]] Tryz.func115 ?_;refine⟨Bool,fun k=>⟨[(0,.slice (some ⟨g,0,none⟩) l.length cap),(1,i64 l.length),(2,.func (.func 84) #[] #[At0 L]),(6,i64 20),(7,i64 (if k=true then (0:Nat) else l.length:Nat)),(8,i64 (if k=true then l.length else 40:Nat))],[]⟩,fun k X=>(k=true/\w=X)\/(k=false/\OwnS zC 3 B X (some ⟨g,0,none⟩) cap (zc9 (zbP x) l)/\w.grownBy X (some g)),fun k=>if k=true then 1 else 0,true,⟨.cons rfl (.cons rfl (.cons rfl (.cons rfl (.cons rfl (.cons (by rw [hn20];rfl) .nil))))),rfl⟩,.inl ⟨rfl,rfl⟩,?_⟩;rintro k X (⟨rfl,rfl⟩ | ⟨rfl,oX,gX⟩)
 ·refine brE (Un (by show ((l.length:Nat):Int)<=(l.length:Int);omega)) (cmo (zhg ho fx fL hT htg hco h48 hn hn1) ?_);rintro e X ⟨rfl,oX,gX⟩;refine⟨40,by rw [hn20];rfl,?_⟩;exact⟨false,(cvE rfl rfl),.inr ⟨rfl,oX,gX⟩,by decide⟩
 ·refine brN (Uc (by show ¬ ((40:Nat):Int)<=(l.length:Int);omega)) (cmo (zlX (m:=l.length) (by omega)) ?_);rintro e _ ⟨rfl,rfl⟩;refine⟨Unit,fun _=>⟨[(1,i64 l.length),(6,i64 20)],[]⟩,fun _ Y=>X=Y,fun _=>0,(),(cvE rfl rfl),rfl,?_⟩;rintro _ _ rfl;exact brN (Uc (by omega)) ⟨rfl,oX,gX⟩
theorem zhY {B:Nat} (ho:OwnS zC 3 B w (some ⟨g,0,none⟩) cap l) (fx:ExH w b x q c) (fL:w.heap[L]?=some (.cells #[At0 b] 81 (0,0))) (hT:Tz64M w) (htg:1≠g) (hco:zJ x.co.to) (h48:∀ a∈l,a<48) (hn:l.length<=20) (hn1:1<=l.length) :
  Calls PG 83 #[.slice (some ⟨g,0,none⟩) l.length cap,.func (.func 84) #[] #[At0 L]] w fun e w'=>e = .returned (.tuple #[])/\OwnS zC 3 B w' (some ⟨g,0,none⟩) cap (zc9 (zbP x) l)/\w.grownBy w' (some g):=by
 refine zF 9 [.slice (some ⟨g,0,none⟩) l.length cap,.func (.func 84) #[] #[At0 L]] Tryz.func83 ?_;refine cmo (znH ho fx fL hT htg hco h48 hn hn1) ?_;rintro e X ⟨rfl,h1,h2⟩;exact⟨rfl,h1,h2⟩
theorem zoi {l:List Nat} (h:0<l.length):l.headD 48=l[0]:=by
 cases l with
 | nil=>simp at h
 | cons a r=>rfl
theorem zoI {k a:Nat} (h:a∈qc x k):a<x.ev.length:=by
 unfold qc at h;exact Uj.1 (QN.1 h).1
theorem zmJ {k a:Nat} (h:a∈z5 x k):a<x.ev.length:=zoI (zh9.1 h)
theorem ztp (q:OA) (c:Nat):((exC x q c).drop 99).take 49=zf x.co:=by
 obtain⟨A,T,hA,hE⟩:=zl7 x q c;show ((exC { x with co:=x.co } q c).drop 99).take 49=_;rw [hE,<- hA,Ug,Jf (by rw [zg];decide),JF (by rw [zg];decide)]
theorem zrM (q:OA) (c:Nat):((exC x q c).drop 327).take 6=seg 6 fun i=>u8 (x.mem i):=by
 obtain⟨A,T,hA,hE⟩:=zpX x q c [];have:=hE x.mem;rw [QF] at this;show ((exC { x with mem:=x.mem } q c).drop 327).take 6=_;rw [this,<- hA,Ug,Jf (by rw [zG];decide),JF (by rw [zG];decide)]
abbrev zqD (X:Wd) (b:Nat) (f:Nat->UInt8):Prop:=X.heap[b]?=some (.cells (seg 6 fun i=>u8 (f i)).toArray 42 (0,0))
theorem zos {locs:Nat} (fx:ExH w b x q c) (hv:ExW w x q) (hlo:locs<=6) (hne:∀ l,l<locs->qc x l≠[]) (hT:Tz64M w) :
  CB 45 #[At0 b,i64 locs] w (.bool (zaG x locs)):=by
 refine qk 87 [At0 b,i64 locs] (.c .p (.c .p (.c .p (.c .p .p)))) Tryz.func45 ?_;obtain⟨L,hL⟩:=nm (w.heap.size);have hbw:=hlt fx;have hn:=hv.n;have htl:=zaT hT;refine⟨Unit,fun _=>⟨[(1,i64 locs),(2,At0 L)],[]⟩,fun _ X=>X.heap[L]?=some (.cells #[At0 b] 81 (0,0))/\X.heap.size=L+1/\Bw w X,⟨(),⟨.cons rfl (.cons (by rw [hL];rfl) .nil),rfl⟩,by rw [hL];exact zy w _,by rw [hL];exact wz _ _,(zba w _)⟩,?_⟩;rintro _ X ⟨fL,sX,hbX⟩;refine⟨Unit,fun _=>⟨[(1,i64 locs),(2,At0 L),(5,At0 (L+1))],[]⟩,fun _ Y=>zY Y (L+1) ⟨x.ev.length,fun _=>0⟩/\Y.heap.size=L+2/\Bw X Y,?_,?_⟩
 ·refine⟨_,zc (za fL) (i:=0) rfl,_,zc (za (zb hbX fx)) (i:=0) rfl,zf ⟨x.ev.length,fun _=>0⟩,by kernel_rfl,?_⟩;refine zo (X:=X) (v := .agg (zf ⟨x.ev.length,fun _=>0⟩).toArray) k39 (zg _) (by kernel_rfl) (zE _) fun Z hbZ fZ sZ=>?_;rw [sX] at fZ sZ;exact⟨(),⟨.cons rfl (.cons rfl (.cons (by rw [<- sX];rfl) .nil)),rfl⟩,fZ,sZ,hbZ⟩
 rintro _ Y ⟨fT,sY,hbY⟩;refine⟨Unit,fun _=>⟨[(1,i64 locs),(2,At0 L),(5,At0 (L+1)),(6,At0 (L+2))],[]⟩,fun _ Z=>zqD Z (L+2) (fun _=>0)/\zY Z (L+1) ⟨x.ev.length,fun _=>0⟩/\Z.heap[L]?=some (.cells #[At0 b] 81 (0,0))/\Z.heap.size=L+3/\Bw w Z,?_,?_⟩
 ·exact⟨(),⟨.cons rfl (.cons rfl (.cons rfl (.cons (by rw [<- sY];rfl) .nil))),rfl⟩,by rw [<- sY];exact zy Y _,qJ _ fT,qJ _ (zb hbY fL),by rw [wz,sY],((zst hbX hbY)).alloc (by have:=hbX.size;have:=hbY.size;omega) _⟩
 clear fL sX hbX fT sY hbY;clear X Y;rintro _ X ⟨fM,fT,fL,sX,hbX⟩;obtain⟨P0,hP0⟩:∃ P0:RelD×(Nat->UInt8),P0=(⟨x.ev.length,fun _=>0⟩,fun _=>0):=⟨_,rfl⟩;have hco:zaG x locs=match zhW x locs 0 P0 with
  | none=>false
  | some p=>jt p.1 x.co&&(List.range 6).all fun l=>decide (p.2 l=x.mem l):=by rw [hP0];rfl
 refine⟨RelD×(Nat->UInt8),fun P=>⟨[(2,At0 L),(5,At0 (L+1)),(6,At0 (L+2))],[]⟩,fun P Z=>zhW x locs 0 P0=some P/\zqD Z (L+2) P.2/\zY Z (L+1) P.1/\Z.heap[L]?=some (.cells #[At0 b] 81 (0,0))/\Bw w Z,?_,?_⟩
 ·refine⟨Nat×(RelD×(Nat->UInt8)),fun s=>⟨[(2,At0 L),(5,At0 (L+1)),(6,At0 (L+2)),(17,i64 locs),(18,i64 (s.1:Nat))],[]⟩,fun s Z=>s.1<=locs/\zhW x (locs-s.1) s.1 s.2=zhW x locs 0 P0/\zJ s.2.1.to/\zqD Z (L+2) s.2.2/\zY Z (L+1) s.2.1/\Z.heap[L]?=some (.cells #[At0 b] 81 (0,0))/\Bw w Z/\L+3<=Z.heap.size,fun s=>locs-s.1,(0,P0),
   (cvE rfl rfl),⟨UU _,rfl,by rw [hP0];exact fun i _=>(by show 0<_;decide),by rw [hP0];exact fM,by rw [hP0];exact fT,fL,hbX,by omega⟩,?_⟩
  clear fM fT fL sX hbX;rintro⟨l,P⟩ Z ⟨hl,hgo,hPw,fM,fT,fL,hbZ,sZ⟩;dsimp only at hl hgo hPw fM fT sZ ⊢;refine biE (fun hc=>?_) fun hc=>?_
  ·have hc:(l:Int)<(locs:Int):=dT hc;have hll:l<locs:=by omega
   have hstep:zhW x (locs-l) l P=if (z5 x l).headD 48=l then zhW x (locs-(l+1)) (l+1) (zas (z5 x l) P.1,upd P.2 l (zd1 x.ev (z5 x l))) else none:=by
    rw [show locs-l=(locs-(l+1))+1 by omega];rfl
   refine⟨_,zc (za fL) (i:=0) rfl,_,zc (za (zb hbZ fx)) (i:=0) rfl,?_⟩;obtain⟨pr,hpr⟩:∃ pr:Nat->Bool,pr=fun i=>decide ((evA x i).k=2)&&decide ((evA x i).l.toNat=l):=⟨_,rfl⟩;refine⟨Nat×OA×Nat,fun s=>⟨[(2,At0 L),(5,At0 (L+1)),(6,At0 (L+2)),(7,i64 (l:Nat)),(8,.slice s.2.1 ((List.range s.1).filter pr).length s.2.2),(17,i64 locs),(18,i64 (l:Nat)),(24,.slice q x.ev.length c),(25,i64 x.ev.length),(26,i64 (s.1:Nat))],[]⟩,fun s V=>s.1<=x.ev.length/\OwnS zC 3 Z.heap.size V s.2.1 s.2.2 ((List.range s.1).filter pr)/\Bw Z V,fun s=>x.ev.length-s.1,(0,none,0),
    (cvE rfl rfl),⟨UU _,OwnS.nil,UW _ _⟩,?_⟩
   rintro⟨k,ps,cs⟩ V ⟨hk,oV,hbV⟩;dsimp only at hk oV ⊢;have hVs:=hbV.size;refine biE (fun hc=>?_) fun hc=>?_
   ·have hc:(k:Int)<(x.ev.length:Int):=dT hc;have hkl:k<x.ev.length:=(by omega);have hbwV:=zst hbZ hbV;obtain⟨bq,oq,hqe,hb,hat⟩:=zch (hv.ev.below hbwV) hkl;rw [zek] at hat;have hfl:(List.range (k+1)).filter pr=(List.range k).filter pr++if pr k=true then [k] else []:=by
     rw [QR,Kt,Qk,List.filter_nil]
    have hprk:pr k=(decide ((evA x k).k=2)&&decide ((evA x k).l.toNat=l)):=(by rw [hpr]);have hll2:((List.range k).filter pr).length<=k:=by
     have:=JL pr (List.range k);rw [KS] at this;exact this
    obtain⟨e,he⟩:=nm (evA x k);rw [<- he] at hat hprk;have eq0:some (Value.slice q x.ev.length c)=some (Value.slice (some ⟨bq,oq,none⟩) x.ev.length c):=(by rw [hqe]);subst hqe;refine⟨k,rfl,hkl,evE.enc e,rfl,hat,hb,zo (X:=V) (v := .agg (evE.enc e).toArray) k49 rfl rfl (Qg.2 fun u hu=>evE.one e u hu) fun U hbU fU sU=>?_⟩;have fU:U.heap[V.heap.size]?=some (.cells (evE.enc e).toArray 49 (0,0)):=fU;have oU:=oV.below hbU;have hbU2:=hbV.trans (hbU.mono hVs);have hUs:=hbU2.size;have skip:pr k=false->(k+1<=x.ev.length/\OwnS zC 3 Z.heap.size U ps cs ((List.range (k+1)).filter pr)/\Bw Z U):=fun h=>⟨hkl,by rw [hfl,h];simpa using oU,hbU2⟩;have skipE:pr k=false->((List.range (k+1)).filter pr).length=((List.range k).filter pr).length:=fun h=>by rw [hfl,h];simp
    refine⟨u8 e.k,zc (za fU) (i:=1) rfl,biE (fun h1=>?_) fun h1=>?_⟩
    ·have h1:e.k=2:=qq.1 (dT h1);refine⟨u8 e.l,zc (za fU) (i:=2) rfl,(e.l.toNat:Int),qS _,biE (fun h2=>?_) fun h2=>?_⟩
     ·have h2:(e.l.toNat:Int)=(l:Int):=dT h2;have hp1:pr k=true:=(by rw [hprk,Un h1,Un (by omega:e.l.toNat=l)];rfl);rw [Gi hp1] at hfl;refine⟨⟨by decide,by decide,rfl⟩,zC.enc k,rfl,?_⟩;have hb2:Bw U (U.alloc (.cells (zC.enc k).toArray 3)):=zba _ _;have sb2:=hb2.size;unfold zdX zax;show SatR _ _;refine zoC (oU.below hb2) (qK zC k) (by omega) (by omega) fun p' c' S oS gS hat2=>?_;rw [zad] at gS;rw [<- hfl] at oS ⊢;exact nxI (by omega) ⟨(k+1,p',c'),(cvE rfl rfl),⟨hkl,oS,hbU2.trans ((hb2.mono hUs).trans (qF (oU.below hb2) (by omega) (UR _) gS))⟩,zdc (by omega)⟩
     ·have h2:¬ (e.l.toNat:Int)=(l:Int):=dF h2;have hp0:pr k=false:=(by rw [hprk,Uc (by omega:¬ e.l.toNat=l),Ud]);exact nxI (by omega) ⟨(k+1,ps,cs),⟨.cons rfl (.cons rfl (.cons rfl (.cons rfl (.cons (by show _=some (Value.slice ps ((List.range (k+1)).filter pr).length cs);rw [skipE hp0];rfl) (.cons rfl (.cons rfl (.cons rfl (.cons rfl (.cons rfl .nil))))))))),rfl⟩,skip hp0,zdc (by omega)⟩
    ·have h1:¬ e.k=2:=fun e2=>(dF h1) (by rw [e2];rfl);have hp0:pr k=false:=(by rw [hprk,Uc h1];rfl);exact brF (nxI (by omega) ⟨(k+1,ps,cs),⟨.cons rfl (.cons rfl (.cons rfl (.cons rfl (.cons (by show _=some (Value.slice ps ((List.range (k+1)).filter pr).length cs);rw [skipE hp0];rfl) (.cons rfl (.cons rfl (.cons rfl (.cons rfl (.cons rfl .nil))))))))),rfl⟩,skip hp0,zdc (by omega)⟩)
   have hc:¬ (k:Int)<(x.ev.length:Int):=dF hc;obtain rfl:k=x.ev.length:=by omega
   have hwr:(List.range x.ev.length).filter pr=qc x l:=by rw [hpr];rfl
   rw [hwr] at oV ⊢;have hwn:=hne l hll;have hw1:1<=(qc x l).length:=List.length_pos_iff.2 hwn;have hw19:(qc x l).length<=20:=hv.w20 l;have hps:∃ g,ps=some ⟨g,0,none⟩:=by
    rcases oV.inv with ⟨_,_,h⟩ | ⟨g,cur,h,_⟩
    ·exact (hwn h).elim
    ·exact⟨g,h⟩
   obtain⟨g,rfl⟩:=hps;have hg:=(zx oV rfl).1;have hg:Z.heap.size<=g:=hg;have hbwV:=zst hbZ hbV;have hZw:=hbZ.size;refine cmo (zhY oV (zb hbwV fx) (zb hbV fL) (hT.below hbwV) (by omega) hv.co (fun a ha=>by have:=zoI ha;omega) hw19 hw1) ?_;rintro e U ⟨rfl,oU,gU⟩;have oU:OwnS zC 3 Z.heap.size U (some ⟨g,0,none⟩) cs (z5 x l):=oU;have hrl:(z5 x l).length=(qc x l).length:=znK _;have hbU:Bw Z U:=hbV.trans (zk gU hVs hg);have hbwU:=hbZ.trans (hbU.mono hZw);have hU0:0<(z5 x l).length:=by omega
   obtain⟨bq,oq,hqe,hbq,hatq⟩:=oU.row.at hU0;have hbo:bq=g/\oq=0:=by simpa using hqe.symm
   obtain⟨rfl,rfl⟩:=hbo;rw [<- hrl];have hh:(z5 x l).headD 48=(z5 x l)[0]:=zoi hU0;refine⟨0,rfl,hU0,i64 (z5 x l)[0],by have:=zc (hatq 0 hU0) (i:=0) (v:=i64 (z5 x l)[0]) rfl;exact this,biE (fun h=>?_) fun h=>?_⟩
   ·have h:(!decide (((z5 x l)[0]:Int)=(l:Int)))=true:=h;have h:¬ ((z5 x l)[0]:Int)=(l:Int):=(by simpa using h);rw [hstep,Gh (by rw [hh];omega)] at hgo;refine⟨rb ?_,hbwU⟩;rw [hco,<- hgo]
   have h:(!decide (((z5 x l)[0]:Int)=(l:Int)))=false:=h;have h:((z5 x l)[0]:Int)=(l:Int):=by simpa using h
   rw [hstep,Gi (by rw [hh];omega)] at hgo;have fTU:=zb hbU fT;have hRT:RelAt U (L+1) 0 39 [] [] P.1:=⟨rfl,by simpa using fTU⟩;have hrk48:∀ a∈z5 x l,a<48:=fun a ha=>by have:=zmJ ha;omega
   have hLZ:=hlt fT;have hL2Z:=hlt fM;refine cmo (zpF hRT hPw oU.row (fun a ha=>by cases ha;exact⟨hbq,by show bq≠L+1;omega⟩) (by omega) hrk48) ?_;rintro e S ⟨rfl,hRS,gS⟩;have fTS:zY S (L+1) (zas (z5 x l) P.1):=by simpa using hRS.cells
   have hbS:Bw w S:=hbwU.trans (zk gS hbwU.size (by omega));have fMS:=(gS.block (L+2) (hlt (zb hbU fM)) (by simp)).trans (zb hbU fM);have fLS:=(gS.block L (hlt (zb hbU fL)) (by simp)).trans (zb hbU fL);have oS:=qj oU fTU (by decide) gS;obtain⟨j,hj⟩:∃ j,j+1=(z5 x l).length:=⟨(z5 x l).length-1,by omega⟩;have hjl:j<(z5 x l).length:=by omega
   obtain⟨b6,o6,hp6,hl6,hat6⟩:=oS.row.at hjl;have hbo6:b6=bq/\o6=0:=by simpa using hp6.symm
   obtain⟨rfl,rfl⟩:=hbo6;obtain⟨t,ht⟩:∃ t,(z5 x l)[j]=t:=⟨_,rfl⟩;have htev:t<x.ev.length:=zmJ (by rw [<- ht];exact gM hjl);have hlast:(z5 x l).getLastD 0=t:=by
    rw [List.getLastD_eq_getLast?,List.getLast?_eq_getElem?,show (z5 x l).length-1=j by omega,gE hjl,ht];rfl
   obtain⟨b7,o7,hp7,hl7,hat7⟩:=zch (hv.ev.below hbS) htev;rw [zek] at hat7;have hlV:zd1 x.ev (z5 x l)=(evA x t).v:=by
    show (x.ev.getD ((z5 x l).getLastD 0) ev0).v=_;rw [hlast];rfl
   have dS:Bw S S.drew:=(UW _ _).drew;refine DrawE.ord [15] [0,1,2,3,4,5,6,7,8,9,10,11,12,13,14,15] (by kernel_rfl) ⟨_,zc (za (hdr fLS)) (i:=0) rfl,_,zc (za (hdr (zb hbS fx))) (i:=0) rfl,(j:Nat),(ze (by omega)).trans (by omega),j,rfl,hjl,i64 t,by have:=zc (zr dS (hat6 j hjl)) (i:=0) (v:=i64 t) (by rw [ht];rfl);exact this,?_⟩;rw [hp7];refine⟨t,rfl,htev,u8 (evA x t).v,by have:=zc (zr dS hat7) (i:=3) (v:=u8 (evA x t).v) rfl;exact this,l,rfl,by omega,?_⟩;refine zm k5 (hdr fMS) (o:=0+l*1) (v:=u8 (evA x t).v) rfl rfl (by rw [zG];omega) rfl fun T fT2 gT sT=>?_;have gT2:S.grownBy T (some (L+2)):=zd (zi dS) gT;have e8:=ziV (n:=6) (fun i=>u8 (P.2 i)) (fun i=>u8 (upd P.2 l (evA x t).v i)) (i:=l) (by omega) rfl (fun j hj=>by rw [qz _ _ hj]);rw [zQ] at e8;rw [US,UM,e8] at fT2;exact nxI (by omega) ⟨(l+1,(zas (z5 x l) P.1,upd P.2 l (evA x t).v)),(cvE rfl rfl),⟨hll,by rw [<- hlV];exact hgo,zis hPw hrk48,fT2,(gT2.block (L+1) (hlt fTS) (by simp)).trans fTS,(gT2.block L (hlt fLS) (by simp)).trans fLS,hbS.trans (zk gT2 hbS.size (by omega)),by have:=gT2.size;have:=gS.size;have:=hbU.size;omega⟩,zdc (by omega)⟩
  ·have hc:¬ (l:Int)<(locs:Int):=dF hc;obtain rfl:l=locs:=by omega
   rw [UK] at hgo;exact⟨P,(cvE rfl rfl),hgo.symm,fM,fT,fL,hbZ⟩
 rintro P Z ⟨hgo,fM,fT,fL,hbZ⟩;have hco2:zaG x locs=(jt P.1 x.co&&(List.range 6).all fun l=>decide (P.2 l=x.mem l)):=by rw [hco,hgo]
 refine DrawE.ord [] [0,1,2,3,4,5,6,7,8,9,10,11,12,13,14,15] (by kernel_rfl) ?_;have dZ:Bw Z Z.drew:=(UW _ _).drew;refine⟨zf P.1,zg _,za (hdr fT),hlt (hdr fT),_,zc (za (hdr fL)) (i:=0) rfl,?_⟩;have fxZ:=hdr (zb hbZ fx);refine⟨zf x.co,zg _,by have h:=zP (n:=99) (m:=49) (za fxZ);rw [show (exC x q c).toArray.toList=exC x q c from rfl,ztp] at h;exact h,hlt fxZ,_,fun w=>znh _ _ P.1 x.co w,?_⟩;have fin:Bw w Z.drew:=zst hbZ dZ;refine biE (fun h=>?_) fun h=>?_
 ·have h:jt P.1 x.co=true:=h;exact⟨seg 6 (fun i=>u8 (P.2 i)),zG _ _,za (hdr fM),hlt (hdr fM),_,zc (za (hdr fL)) (i:=0) rfl,seg 6 (fun i=>u8 (x.mem i)),zG _ _,by have h:=zP (n:=327) (m:=6) (za fxZ);rw [show (exC x q c).toArray.toList=exC x q c from rfl,zrM] at h;exact h,hlt fxZ,_,fun w=>zp1 _ _ P.2 x.mem w,rb (by rw [hco2,h,Ut]),fin⟩
 ·have h:jt P.1 x.co=false:=h;exact⟨rb (by rw [hco2,h,Ue]),fin⟩
end
end Go.Proofs.YtkpaomeeknegpaaGreatDoor
