/- Contracts of functions, and plain facts, for the law that the last text of this claim proves. -/
import Derived.Test.YtpalcnbhkigagaaGreatDoorM3
import Derived.Test.YtpalcnbhkigagaaGreatDoorM2
set_option linter.unusedSimpArgs false
set_option linter.unusedVariables false
namespace Go.Proofs.YtpalcnbhkigagaaGreatDoor
open Go.Vc Go.RowKit Go.Sei
abbrev zaY (X:Wd) (b:Nat) (x:ExD) (q:OA) (c:Nat) (S:List Value):Prop:=X.heap[b]?=some (.cells (exC x q c++S).toArray 87 (0,0))
abbrev zO:Value := .slice none 0 0
theorem zco {X:Wd} {b:Nat} {x:ExD} {q:OA} {c:Nat} {S:List Value} (h:zaY X b x q c S):X.cell? ⟨b,0+0,none⟩=some (.slice q x.ev.length c):=zc (za h) (zrD x q c S)
theorem j0 {X:Wd} {b:Nat} {x:ExD} {q:OA} {c:Nat} {S:List Value} (h:zaY X b x q c S) {i:Nat} {v:Value} (hi:S[i]?=some v):X.cell? ⟨b,333+i,none⟩=some v:=by
 have:=zc (za h) (zfD (x:=x) (q:=q) (c:=c) hi);rw [UR] at this;exact this
theorem zoD {w Z:Wd} {q:OA} {ev:List Ev} {b:Nat} (hl:SlR evE w q ev) (hqb:∀ a,q=some a->a.block≠b) (g:w.grownBy Z (some b)):SlR evE Z q ev:=by
 rcases hl with h | ⟨b',o,h1,h2,h3⟩
 ·exact .inl h
 ·have:=hqb _ h1;exact .inr ⟨b',o,h1,nL h2 g.size,fun i hi=>jm (g.block b' h2 (by simpa using this)) (h3 i hi)⟩
theorem zag (p:OA) (n c:Nat):(Value.slice p n c).ownBlock=p.map Addr.block:=by cases p <;> rfl
theorem zf8 {α:Type} {E:Enc α} {T B cap:Nat} {w:Wd} {p:OA} {l:List α} (h:OwnS E T B w p cap l) {k T':Nat} {cur:Array Value} {fr:Nat×Nat} (hk:w.heap[k]?=some (.cells cur T' fr)) (hT:T'≠T):some k≠p.map Addr.block:=fun e=>by
 cases hp:p with
 | none=>rw [hp] at e;cases e
 | some a =>
  rw [hp] at e;simp only [Ue,Qa] at e;obtain⟨_,_,cur',h'⟩:=zq h hp;rw [<- e,hk] at h';simp at h';exact hT h'.2.1
theorem SatR.mono {α:Type} {r:Result α} {K K':α->Wd->Prop} (h:SatR r K) (k:∀ v w,K v w->K' v w):SatR r K':=by
 obtain⟨v,w',e,h⟩:=h;exact⟨v,w',e,k v w' h⟩
section
variable {α β:Type} {E:Enc α} {E':Enc β} {T T' B B' c c':Nat} {A C:Wd} {p q:OA} {l:List α} {l':List β}
theorem zcO (h:OwnS E T B A q c l) (g:A.grownBy C (p.map Addr.block)) (hne:∀ a b',p=some a->q=some b'->a.block≠b'.block):OwnS E T B C q c l :=
 h.same fun b' hb'=>g.block _ (zq h hb').2.1 fun e=>by
  cases hp:p with
  | none=>rw [hp] at e;cases e
  | some a =>
   rw [hp] at e;simp only [Ue,Qa] at e;exact hne a b' hp hb' e.symm
theorem jZ (h:OwnS E T B A q c l) (hp:OwnS E' T' B' A p c' l') (hT:T≠T') (g:A.grownBy C (p.map Addr.block)):OwnS E T B C q c l :=
 zcO h g fun a b' ha hb e=>by
  obtain⟨_,_,c1,h1⟩:=zq h hb;obtain⟨_,_,c2,h2⟩:=zq hp ha;rw [e,h1] at h2;simp at h2;exact hT h2.2
theorem qa {b:Nat} {cur:Array Value} {fr:Nat×Nat} (h:OwnS E T B A q c l) (hb:A.heap[b]?=some (.cells cur T' fr)) (hT:T≠T') (g:A.grownBy C (some b)):OwnS E T B C q c l :=
 h.same fun b' hb'=>g.block _ (zq h hb').2.1 fun e=>by
  obtain⟨_,_,c1,h1⟩:=zq h hb';simp only [Qa] at e;rw [e,hb] at h1;simp at h1;exact hT h1.2.1.symm
theorem zZ {b:Nat} {cur:Array Value} {fr:Nat×Nat} (hb:A.heap[b]?=some (.cells cur T' fr)) (h:OwnS E T B A q c l) (hT:T'≠T) (g:A.grownBy C (q.map Addr.block)):C.heap[b]?=some (.cells cur T' fr) :=
 (g.block b (hlt hb) (zf8 h hb hT)).trans hb
theorem jk {n:Nat} (hp:OwnS E T B A p c l) (hn:n<=A.heap.size) (hB:n<=B) (g:A.grownBy C (p.map Addr.block)):Below n A C:=by
 refine⟨g.os,g.tape,g.output,g.size,fun j hj=>g.block j (by omega) fun e=>?_⟩
 cases h:p with
 | none=>rw [h] at e;cases e
 | some a =>
  rw [h] at e;simp only [Ue,Qa] at e;have:=(zq hp h).1;omega
end
theorem zo7 {B c k:Nat} {V1:Wd} {p:OA} {l:List Nat} {a:Addr} (ho:OwnS zw 3 B V1 p c l) (ha:zx V1 a ([k].flatMap zw.enc)) (hB:B<=V1.heap.size) (hl:l.length<=100000) {K:Value->Wd->Prop}
  (h:∀ p' c' w',OwnS zw 3 B w' p' c' (l++[k])->V1.grownBy w' (Value.slice p l.length c).ownBlock->(∀ a,p'=some a->p=some a\/a.block=V1.heap.size)->K (.slice p' (l++[k]).length c') w') :
  SatR ((Builtin.append_ #[66,66] 66 #[.slice p l.length c,.slice (some a) 1 1]).run PG V1) K :=
 ju (E:=zw) (T:=3) (B:=B) (l:=l) (news:=[k]) (cap:=c) (m:=1) Tryz.underlying66 k3 rfl rfl rfl ho rfl ha hB (by omega) (by show (l.length+1)*8<=_;omega) fun p' c' w' a1 a2 _ a4=>h p' c' w' a1 a2 a4
theorem zs4 {B c:Nat} {V1:Wd} {p:OA} {l:List zar} {y:zar} {a:Addr} (ho:OwnS qW 66 B V1 p c l) (ha:zx V1 a ([y].flatMap qW.enc)) (hB:B<=V1.heap.size) (hl:l.length<=100000) {K:Value->Wd->Prop}
  (h:∀ p' c' w',OwnS qW 66 B w' p' c' (l++[y])->V1.grownBy w' (Value.slice p l.length c).ownBlock->(∀ a,p'=some a->p=some a\/a.block=V1.heap.size)->K (.slice p' (l++[y]).length c') w') :
  SatR ((Builtin.append_ #[85,85] 85 #[.slice p l.length c,.slice (some a) 1 1]).run PG V1) K :=
 ju (E:=qW) (T:=66) (B:=B) (l:=l) (news:=[y]) (cap:=c) (m:=1) Tryz.underlying85 k66 rfl rfl rfl ho rfl ha hB (by omega) (by show (l.length+1)*24<=_;omega) fun p' c' w' a1 a2 _ a4=>h p' c' w' a1 a2 a4
section
variable {b:Nat} {x:ExD} {q:OA} {c locs:Nat} {w:Wd}
theorem zng (hm:zaY w b x q c [zO,zO,zO]) (hl:SlR evE w q x.ev) (hqb:∀ a,q=some a->a.block≠b) (hn:x.ev.length<=48) (hlo:locs<=100) (hv:∀ e∈x.ev,e.k=1\/e.k=2->e.l.toNat<locs) :
  Calls PG 80 #[At0 b,i64 locs] w fun e w'=>e = .returned (.tuple #[])/\(∃ (p1 p2 p3:OA) (c1 c2 c3:Nat) (xs ys:List zar),
   zaY w' b x q c [.slice p1 (jU x locs).rs.length c1,.slice p2 xs.length c2,.slice p3 ys.length c3]/\OwnS zw 3 w.heap.size w' p1 c1 ((jU x locs).rs.map (·.1))/\xs.map (·.1)=(jU x locs).rs.map (·.2)/\OwnS qW 66 w.heap.size w' p2 c2 xs/\(∀ y∈xs,OwnS zw 3 w.heap.size w' y.2.1 y.2.2 y.1) /\
   ys.map (·.1)=(jU x locs).wr/\OwnS qW 66 w.heap.size w' p3 c3 ys/\∀ y∈ys,OwnS zw 3 w.heap.size w' y.2.1 y.2.2 y.1)/\w.grownBy w' (some b):=by
 refine jf 114 [At0 b,i64 locs] (.c .p (.c .p .p)) Tryz.func80 ?_;obtain⟨B,hB⟩:=nm (w.heap.size);have hbw:=hlt hm;obtain⟨W0,hW0⟩:∃ W0:List zar,W0=List.replicate locs ([],none,0):=⟨_,rfl⟩;have hW0l:W0.length=locs:=by rw [hW0,JN]
 refine⟨Unit,fun _=>⟨[(0,At0 b)],[]⟩,fun _ X=>zaY X b x q c [zO,zO,.slice (some ⟨B,0,none⟩) locs locs]/\RowLH X B W0/\w.grownBy X (some b)/\B<X.heap.size,?_,?_⟩
 ·refine zda Tryz.underlying85 k66 rfl rfl (by decide) locs (by show 24*_<=_;omega) (by omega) fun X fX hbX sX=>?_;have ez:∀ n,zbQ [Value.slice none 0 0] n=zdp (List.replicate n ([],none,0)):=fun n=>by
   induction n with
   | zero=>rfl
   | succ n ih =>
    show Value.slice none 0 0::zbQ [Value.slice none 0 0] n=slV ([],none,0)::zdp (List.replicate n ([],none,0));rw [<- ih];rfl
  have fX:X.heap[w.heap.size]?=some (.cells (zbQ [Value.slice none 0 0] locs).toArray 66 (0,0)):=fX;rw [ez,<- hW0,<- hB] at fX;have hmX:=(hbX.block b hbw).trans hm;refine zk k85 hmX (o:=0+335) (v := .slice (some ⟨w.heap.size,0,none⟩) locs locs) rfl rfl (by rw [lap,zC];decide) rfl fun Y fY gY sY=>?_;rw [show 0+335=333+2 from rfl,ziq] at fY;exact⟨(),(cvE rfl rfl),by rw [hB];exact fY,(gY.block B (hlt fX) (by simp;omega)).trans fX,zd (zf hbX) gY,by rw [sY,sX,hB];omega⟩
 rintro _ X ⟨hmX,fX,gX,sX⟩;refine⟨List zar,fun W=>⟨[(0,At0 b)],[]⟩,fun W Z=>zaY Z b x q c [zO,zO,.slice (some ⟨B,0,none⟩) locs locs]/\RowLH Z B W/\w.grownBy Z (some b)/\W.length=locs/\W.map (·.1)=(jU x locs).wr/\Rows B Z W/\∀ y∈W,y.1.length<=48/\∀ a∈y.1,a<x.ev.length,?_,?_⟩
 ·refine⟨_,zco hmX,?_⟩;refine⟨Nat×List zar,fun s=>⟨[(0,At0 b),(20,.slice q x.ev.length c),(21,i64 x.ev.length),(22,i64 (s.1:Nat))],[]⟩,
   fun s Z=>s.1<=x.ev.length/\zaY Z b x q c [zO,zO,.slice (some ⟨B,0,none⟩) locs locs]/\RowLH Z B s.2/\w.grownBy Z (some b)/\s.2.length=locs/\zgV s.1 (x.ev.drop s.1) (s.2.map (·.1))=(jU x locs).wr/\Rows B Z s.2/\(∀ y∈s.2,y.1.length<=s.1/\∀ a∈y.1,a<x.ev.length),fun s=>x.ev.length-s.1,(0,W0),
   (cvE rfl rfl),⟨UZ _,hmX,fX,gX,hW0l,by rw [hW0,List.map_replicate];rfl,by rw [hW0];exact Rows.nils _ _ _,fun y hy=>by rw [hW0] at hy;rw [Ju hy];exact⟨UZ _,fun a ha=>by cases ha⟩⟩,?_⟩
  clear hmX fX gX sX;rintro⟨k,W⟩ Z ⟨hk,hmZ,fZ,gZ,hWl,hacc,hR,hL⟩;dsimp only at hk fZ hWl hacc hR hL ⊢;refine biE (fun hc=>?_) fun hc=>?_
  ·have hc:(k:Int)<(x.ev.length:Int):=dT hc;have hkl:k<x.ev.length:=by omega
   obtain⟨e,he⟩:∃ e,x.ev[k]=e:=⟨_,rfl⟩;have hem:e∈x.ev:=by rw [<- he];exact gM hkl
   rw [<- JF hkl,he] at hacc;have hacc:zgV (k+1) (x.ev.drop (k+1)) (if e.k=2 then (W.map (·.1)).set e.l.toNat ((W.map (·.1)).getD e.l.toNat []++[k]) else W.map (·.1))=(jU x locs).wr:=hacc;have hlZ:=zoD hl hqb gZ;obtain⟨bp,op,hqe,hlp,hat⟩:=hlZ.at hkl;subst hqe;refine⟨k,rfl,hkl,evE.enc e,rfl,by rw [<- he];exact hat k hkl,hlp,?_⟩;refine zn (X:=Z) (v := .agg (evE.enc e).toArray) k60 rfl rfl (Qk.2 fun u hu=>evE.one e u hu) fun Y hbY fY sY=>?_;have gY:=zd gZ (zf (row:=some b) hbY);have hmY:=zb hbY hmZ;have fBY:=zb hbY fZ;have hRY:Rows B Y W:=hR.same fun y hy a ha=>hbY.block _ (zq (hR.own y hy) ha).2.1;have fY:Y.heap[Z.heap.size]?=some (.cells (evE.enc e).toArray 60 (0,0)):=fY;refine⟨u8 e.k,zc (za fY) (i:=1) rfl,biE (fun h=>?_) fun h=>?_⟩
   ·have h:e.k=2:=ji.1 (dT h);rw [Gp h] at hacc;have hll:=hv e hem (.inr h);obtain⟨l,hle⟩:∃ l,e.l.toNat=l:=⟨_,rfl⟩;rw [hle] at hacc hll;have hlW:l<W.length:=(by omega);obtain⟨y,hy⟩:∃ y,W[l]?=some y:=⟨_,gE hlW⟩;have hym:y∈W:=JZ hy;have hgd:(W.map (·.1)).getD l []=y.1:=(by rw [gDe,KV,hy];rfl);rw [hgd] at hacc;have hyo:=hRY.own y hym;have hylen:=(hL y hym).1;have hrl:(zdp W)[l]?=some (slV y):=(by unfold zdp;rw [KV,hy];rfl);have hd:Bw Y Y.drew:=(Gb _ Y).drew;have hba:Below Y.drew.heap.size Y.drew (Y.drew.alloc (.cells (zw.enc k).toArray 3)):=zba _ _;have sa:(Y.drew.alloc (.cells (zw.enc k).toArray 3)).heap.size=Y.heap.size+1:=wz _ _;have nB:=zf8 hyo fBY (by decide);have nb:=zf8 hyo hmY (by decide);have fin:∀ p2 c2 V,OwnS zw 3 B V p2 c2 (y.1++[k])->(Y.drew.alloc (.cells (zw.enc k).toArray 3)).grownBy V (Value.slice y.2.1 y.1.length y.2.2).ownBlock->(∀ a,p2=some a->y.2.1=some a\/a.block=(Y.drew.alloc (.cells (zw.enc k).toArray 3)).heap.size) ->
      (zaY V b x (some ⟨bp,op,none⟩) c [zO,zO,.slice (some ⟨B,0,none⟩) locs locs]/\V.heap[Z.heap.size]?=some (.cells (evE.enc e).toArray 60 (0,0))) /\
      SatR ((storeVar 66 ⟨B,0+l*1,none⟩ (slV (y.1++[k],p2,c2))).run PG V) fun _ S=>zaY S b x (some ⟨bp,op,none⟩) c [zO,zO,.slice (some ⟨B,0,none⟩) locs locs]/\RowLH S B (W.set l (y.1++[k],p2,c2))/\w.grownBy S (some b)/\(W.set l (y.1++[k],p2,c2)).length=locs/\zgV (k+1) (x.ev.drop (k+1)) ((W.set l (y.1++[k],p2,c2)).map (·.1))=(jU x locs).wr/\Rows B S (W.set l (y.1++[k],p2,c2))/\∀ z∈W.set l (y.1++[k],p2,c2),z.1.length<=k+1/\∀ a∈z.1,a<x.ev.length:=by
     intro p2 c2 V oV gV hat2;obtain⟨U,hU⟩:=nm (Y.drew.alloc (.cells (zw.enc k).toArray 3));rw [<- hU] at gV hba sa hat2;have hbYU:Bw Y U:=hd.trans hba;rw [zag] at gV;have gYV:Y.grownBy V (y.2.1.map Addr.block):=zd (zf hbYU) gV;have fBV:RowLH V B W:=(gYV.block B (hlt fBY) nB).trans fBY;have hmV:=(gYV.block b (hlt hmY) nb).trans hmY;have nE:=zf8 hyo fY (by decide);refine⟨⟨hmV,(gYV.block _ (hlt fY) nE).trans fY⟩,zk k66 fBV (o:=0+l*1) (v:=slV (y.1++[k],p2,c2)) rfl rfl (by unfold zdp;rw [QN];omega) rfl fun S fS gS sS=>?_⟩;have fS2:RowLH S B (W.set l (y.1++[k],p2,c2)):=by
      rw [UX,UR] at fS;refine fS.trans ?_;unfold zdp;rw [UI]
     have hRV:Rows B V (W.set l (y.1++[k],p2,c2)):=hRY.set (y:=(y.1++[k],p2,c2)) hy oV gYV fun a ha=>(hat2 a ha).imp id fun h=>by omega
     have hRS:Rows B S (W.set l (y.1++[k],p2,c2)):=hRV.same fun z hz a ha=>gS.block _ (zq (hRV.own z hz) ha).2.1 fun e=>by
      have h1:=zf8 (hRV.own z hz) fBV (by decide);rw [ha] at h1;exact h1 e.symm
     have gyb:w.grownBy S (some b):=by
      have hBb:B≠b:=(by omega);have e1:Below B Y S:=by
       refine Below.trans ⟨gYV.os,gYV.tape,gYV.output,gYV.size,fun j hj=>gYV.block j (by have:=hlt fBY;omega) fun e=>?_⟩ (zi gS (by have:=hlt fBV;omega) (UW _))
       cases hp:y.2.1 with
       | none=>rw [hp] at e;cases e
       | some a =>
        rw [hp] at e;simp only [Ue,Qa] at e;have:=(zq hyo hp).1;omega
      rw [hB] at e1;exact jl gY e1
     refine⟨(gS.block b (hlt hmV) (by simp;omega)).trans hmV,fS2,gyb,by rw [QQ];exact hWl,?_,hRS,fun z hz=>?_⟩
     ·rw [UI];exact hacc
     ·rcases List.mem_or_eq_of_mem_set hz with h | h
      ·exact⟨by have:=(hL z h).1;omega,(hL z h).2⟩
      ·rw [h];refine⟨by simp only [lap,Qt,QO];omega,fun a ha=>?_⟩;rcases QS.1 ha with ha | ha
       ·exact (hL y hym).2 a ha
       ·rw [KB.1 ha];exact hkl
    refine DrawE.treeR [16,18] (.op 0 (.op 1 (.op 2 (.op 4 (.op 6 (.op 7 (.op 8 (.op 9 (.op 10 (.op 11 (.op 12 (.op 13 (.op 14 (.alt (.op 15 (.alt (.op 16 (.alt (.op 3 (.op 5 (.op 17 (.op 18 (.nil))))) (.op 5 (.op 3 (.op 17 (.op 18 (.nil))))))) (.alt (.op 3 (.alt (.op 16 (.op 5 (.op 17 (.op 18 (.nil))))) (.op 5 (.op 16 (.op 17 (.op 18 (.nil))))))) (.op 5 (.alt (.op 16 (.op 3 (.op 17 (.op 18 (.nil))))) (.op 3 (.op 16 (.op 17 (.op 18 (.nil)))))))))) (.alt (.op 3 (.alt (.op 15 (.alt (.op 16 (.op 5 (.op 17 (.op 18 (.nil))))) (.op 5 (.op 16 (.op 17 (.op 18 (.nil))))))) (.op 5 (.op 15 (.op 16 (.op 17 (.op 18 (.nil)))))))) (.op 5 (.alt (.op 15 (.alt (.op 16 (.op 3 (.op 17 (.op 18 (.nil))))) (.op 3 (.op 16 (.op 17 (.op 18 (.nil))))))) (.op 3 (.op 15 (.op 16 (.op 17 (.op 18 (.nil))))))))))))))))))))))) (by kernel_rfl) ⟨_,j0 (hdr hmY) (i:=2) rfl,u8 e.l,zc (za (hdr fY)) (i:=2) rfl,l,by rw [<- hle],hll,?_⟩;refine⟨slV y,by have:=zc (za (hdr fBY)) (i:=l*1) (v:=slV y) (by rw [UX];exact hrl);exact this,?_⟩;have hsz:x.ev.length-(k+1)<x.ev.length-k:=(by omega);have app:∀ {K:Value->Wd->Prop},(∀ p2 c2 V,((zaY V b x (some ⟨bp,op,none⟩) c [zO,zO,.slice (some ⟨B,0,none⟩) locs locs]/\V.heap[Z.heap.size]?=some (.cells (evE.enc e).toArray 60 (0,0))) /\
      SatR ((storeVar 66 ⟨B,0+l*1,none⟩ (slV (y.1++[k],p2,c2))).run PG V) fun _ S=>zaY S b x (some ⟨bp,op,none⟩) c [zO,zO,.slice (some ⟨B,0,none⟩) locs locs]/\RowLH S B (W.set l (y.1++[k],p2,c2))/\w.grownBy S (some b)/\(W.set l (y.1++[k],p2,c2)).length=locs/\zgV (k+1) (x.ev.drop (k+1)) ((W.set l (y.1++[k],p2,c2)).map (·.1))=(jU x locs).wr/\Rows B S (W.set l (y.1++[k],p2,c2))/\∀ z∈W.set l (y.1++[k],p2,c2),z.1.length<=k+1/\∀ a∈z.1,a<x.ev.length)->K (slV (y.1++[k],p2,c2)) V) ->
      SatR ((Builtin.append_ #[66,66] 66 #[slV y,.slice (some ⟨Y.drew.heap.size,0,none⟩) 1 1]).run PG (Y.drew.alloc (.cells (zw.enc k).toArray 3))) K:=fun {K} h =>
     ju (E:=zw) (T:=3) (B:=B) (l:=y.1) (news:=[k]) (cap:=y.2.2) (m:=1) Tryz.underlying66 k3 rfl rfl rfl (hyo.below (hd.trans hba)) rfl (qN zw k) (by have:=gY.size;omega) (by omega) (by show (y.1.length+1)*8<=_;omega) fun p2 c2 V oV gV hbV hat2=>h p2 c2 V (fin p2 c2 V oV gV hat2)
    have hmA:=qF (.cells (zw.enc k).toArray 3 (0,0)) (hdr hmY);have fEA:=qF (.cells (zw.enc k).toArray 3 (0,0)) (hdr fY);refine Gg ?_ (Gg ?_ ?_)
    ·refine⟨⟨by decide,by decide,rfl⟩,zw.enc k,rfl,hba,Gg ?_ (Gg ?_ ?_)⟩
     ·refine app fun p2 c2 V ⟨⟨hmV,fEV⟩,hst⟩=>Gg ?_ ?_
      ·refine⟨_,j0 hmV (i:=2) rfl,u8 e.l,zc (za fEV) (i:=2) rfl,l,by rw [<- hle],hll,?_⟩;refine SatR.mono hst ?_;rintro _ S hS;exact nxI (by omega) ⟨(k+1,W.set l (y.1++[k],p2,c2)),(cvE rfl rfl),⟨hkl,hS⟩,hsz⟩
      ·refine⟨u8 e.l,zc (za fEV) (i:=2) rfl,_,j0 hmV (i:=2) rfl,l,by rw [<- hle],hll,?_⟩;refine SatR.mono hst ?_;rintro _ S hS;exact nxI (by omega) ⟨(k+1,W.set l (y.1++[k],p2,c2)),(cvE rfl rfl),⟨hkl,hS⟩,hsz⟩
     ·refine⟨_,j0 hmA (i:=2) rfl,Gg ?_ ?_⟩
      ·refine app fun p2 c2 V ⟨⟨hmV,fEV⟩,hst⟩=>⟨u8 e.l,zc (za fEV) (i:=2) rfl,l,by rw [<- hle],hll,?_⟩;refine SatR.mono hst ?_;rintro _ S hS;exact nxI (by omega) ⟨(k+1,W.set l (y.1++[k],p2,c2)),(cvE rfl rfl),⟨hkl,hS⟩,hsz⟩
      ·refine⟨u8 e.l,zc (za fEA) (i:=2) rfl,app fun p2 c2 V ⟨⟨hmV,fEV⟩,hst⟩=>⟨l,by rw [<- hle],hll,?_⟩⟩;refine SatR.mono hst ?_;rintro _ S hS;exact nxI (by omega) ⟨(k+1,W.set l (y.1++[k],p2,c2)),(cvE rfl rfl),⟨hkl,hS⟩,hsz⟩
     ·refine⟨u8 e.l,zc (za fEA) (i:=2) rfl,Gg ?_ ?_⟩
      ·refine app fun p2 c2 V ⟨⟨hmV,fEV⟩,hst⟩=>⟨_,j0 hmV (i:=2) rfl,l,by rw [<- hle],hll,?_⟩;refine SatR.mono hst ?_;rintro _ S hS;exact nxI (by omega) ⟨(k+1,W.set l (y.1++[k],p2,c2)),(cvE rfl rfl),⟨hkl,hS⟩,hsz⟩
      ·refine⟨_,j0 hmA (i:=2) rfl,app fun p2 c2 V ⟨⟨hmV,fEV⟩,hst⟩=>⟨l,by rw [<- hle],hll,?_⟩⟩;refine SatR.mono hst ?_;rintro _ S hS;exact nxI (by omega) ⟨(k+1,W.set l (y.1++[k],p2,c2)),(cvE rfl rfl),⟨hkl,hS⟩,hsz⟩
    ·refine⟨_,j0 (hdr hmY) (i:=2) rfl,Gg ?_ ?_⟩
     ·refine⟨⟨by decide,by decide,rfl⟩,zw.enc k,rfl,hba,Gg ?_ ?_⟩
      ·refine app fun p2 c2 V ⟨⟨hmV,fEV⟩,hst⟩=>⟨u8 e.l,zc (za fEV) (i:=2) rfl,l,by rw [<- hle],hll,?_⟩;refine SatR.mono hst ?_;rintro _ S hS;exact nxI (by omega) ⟨(k+1,W.set l (y.1++[k],p2,c2)),(cvE rfl rfl),⟨hkl,hS⟩,hsz⟩
      ·refine⟨u8 e.l,zc (za fEA) (i:=2) rfl,app fun p2 c2 V ⟨⟨hmV,fEV⟩,hst⟩=>⟨l,by rw [<- hle],hll,?_⟩⟩;refine SatR.mono hst ?_;rintro _ S hS;exact nxI (by omega) ⟨(k+1,W.set l (y.1++[k],p2,c2)),(cvE rfl rfl),⟨hkl,hS⟩,hsz⟩
     ·refine⟨u8 e.l,zc (za (hdr fY)) (i:=2) rfl,⟨by decide,by decide,rfl⟩,zw.enc k,rfl,hba,app fun p2 c2 V ⟨⟨hmV,fEV⟩,hst⟩=>⟨l,by rw [<- hle],hll,?_⟩⟩;refine SatR.mono hst ?_;rintro _ S hS;exact nxI (by omega) ⟨(k+1,W.set l (y.1++[k],p2,c2)),(cvE rfl rfl),⟨hkl,hS⟩,hsz⟩
    ·refine⟨u8 e.l,zc (za (hdr fY)) (i:=2) rfl,Gg ?_ ?_⟩
     ·refine⟨⟨by decide,by decide,rfl⟩,zw.enc k,rfl,hba,Gg ?_ ?_⟩
      ·refine app fun p2 c2 V ⟨⟨hmV,fEV⟩,hst⟩=>⟨_,j0 hmV (i:=2) rfl,l,by rw [<- hle],hll,?_⟩;refine SatR.mono hst ?_;rintro _ S hS;exact nxI (by omega) ⟨(k+1,W.set l (y.1++[k],p2,c2)),(cvE rfl rfl),⟨hkl,hS⟩,hsz⟩
      ·refine⟨_,j0 hmA (i:=2) rfl,app fun p2 c2 V ⟨⟨hmV,fEV⟩,hst⟩=>⟨l,by rw [<- hle],hll,?_⟩⟩;refine SatR.mono hst ?_;rintro _ S hS;exact nxI (by omega) ⟨(k+1,W.set l (y.1++[k],p2,c2)),(cvE rfl rfl),⟨hkl,hS⟩,hsz⟩
     ·refine⟨_,j0 (hdr hmY) (i:=2) rfl,⟨by decide,by decide,rfl⟩,zw.enc k,rfl,hba,app fun p2 c2 V ⟨⟨hmV,fEV⟩,hst⟩=>⟨l,by rw [<- hle],hll,?_⟩⟩;refine SatR.mono hst ?_;rintro _ S hS;exact nxI (by omega) ⟨(k+1,W.set l (y.1++[k],p2,c2)),(cvE rfl rfl),⟨hkl,hS⟩,hsz⟩
   ·have h:¬ e.k=2:=fun e'=>dF h (by rw [e'];rfl);rw [Gn h] at hacc;exact nxI (by omega) ⟨(k+1,W),(cvE rfl rfl),⟨hkl,hmY,fBY,gY,hWl,hacc,hRY,fun y hy=>⟨by have:=(hL y hy).1;show _<=k+1;omega,(hL y hy).2⟩⟩,zdc (by omega)⟩
  ·have hc:¬ (k:Int)<(x.ev.length:Int):=dF hc;obtain rfl:k=x.ev.length:=by omega
   rw [Qn] at hacc;exact⟨W,(cvE rfl rfl),hmZ,fZ,gZ,hWl,hacc,hR,fun y hy=>⟨by have:=(hL y hy).1;omega,(hL y hy).2⟩⟩
 rintro W X ⟨hmX,fX,gX,hWl,hwr,hR,hWb⟩;refine⟨_,zco hmX,?_⟩;obtain⟨RS,hRS⟩:=nm ((jU x locs).rs);have hRSg:RS=zbs x.ev (W.map (·.1)) 0 x.ev:=by rw [hRS,hwr];rfl
 rw [<- hRS,<- hwr];have sX:B<X.heap.size:=hlt fX;refine⟨Nat×List (Nat×List Nat)×List zar×(OA×Nat)×(OA×Nat),fun s=>⟨[(0,At0 b),(53,.slice q x.ev.length c),(54,i64 x.ev.length),(55,i64 (s.1:Nat))],[]⟩,
  fun s Z=>s.1<=x.ev.length/\RS=s.2.1++zbs x.ev (W.map (·.1)) s.1 (x.ev.drop s.1)/\s.2.1.length<=s.1/\s.2.2.1.map (·.1)=s.2.1.map (·.2)/\zaY Z b x q c [.slice s.2.2.2.1.1 (s.2.1.map (·.1)).length s.2.2.2.1.2,.slice s.2.2.2.2.1 s.2.2.1.length s.2.2.2.2.2,.slice (some ⟨B,0,none⟩) locs locs]/\RowLH Z B W/\w.grownBy Z (some b)/\(∀ y∈W,OwnS zw 3 B Z y.2.1 y.2.2 y.1)/\(∀ y∈s.2.2.1,OwnS zw 3 B Z y.2.1 y.2.2 y.1) /\
   OwnS zw 3 B Z s.2.2.2.1.1 s.2.2.2.1.2 (s.2.1.map (·.1))/\OwnS qW 66 B Z s.2.2.2.2.1 s.2.2.2.2.2 s.2.2.1/\(∀ a,s.2.2.2.1.1=some a->∀ y,y∈s.2.2.1\/y∈W->∀ b',y.2.1=some b'->a.block≠b'.block)/\(∀ a,s.2.2.2.2.1=some a->a.block≠B),
  fun s=>x.ev.length-s.1,(0,[],[],(none,0),(none,0)),
  (cvE rfl rfl),⟨UZ _,hRSg,UW _,rfl,hmX,fX,gX,hR.own,fun y hy=>(by cases hy),OwnS.nil,OwnS.nil,fun a ha=>(by cases ha),fun a ha=>(by cases ha)⟩,?_⟩
 clear hmX fX gX hR sX;rintro⟨k,dn,xs,⟨p1,c1⟩,⟨p2,c2⟩⟩ Z ⟨hk,hspec,hdl,hxs,hmZ,fZ,gZ,hWo,hxo,ho1,ho2,hd1,hd2⟩;dsimp only at hk hspec hdl hxs hmZ hxo ho1 ho2 hd1 hd2 ⊢;refine biE (fun hc=>?_) fun hc=>?_
 ·have hc:(k:Int)<(x.ev.length:Int):=dT hc;have hkl:k<x.ev.length:=by omega
  obtain⟨e,he⟩:∃ e,x.ev[k]=e:=⟨_,rfl⟩;have hem:e∈x.ev:=by rw [<- he];exact gM hkl
  rw [<- JF hkl,he] at hspec;have hlZ:=zoD hl hqb gZ;obtain⟨bp,op,hqe,hlp,hat⟩:=hlZ.at hkl;subst hqe;refine⟨k,rfl,hkl,evE.enc e,rfl,by rw [<- he];exact hat k hkl,hlp,?_⟩;refine zn (X:=Z) (v := .agg (evE.enc e).toArray) k60 rfl rfl (Qk.2 fun u hu=>evE.one e u hu) fun Y hbY fY sY=>?_;have gY:=zd gZ (zf (row:=some b) hbY);have hmY:=zb hbY hmZ;have fBY:=zb hbY fZ;have fY:Y.heap[Z.heap.size]?=some (.cells (evE.enc e).toArray 60 (0,0)):=fY;refine⟨u8 e.k,zc (za fY) (i:=1) rfl,biE (fun h=>?_) fun h=>?_⟩
  ·have h:¬ e.k=1:=fun e'=>by
    rw [e'] at h;exact Gq h (by decide)
   have hspec:RS=dn++(if e.k=1 then (k,((W.map (·.1)).getD e.l.toNat []).filter fun w=>decide ((x.ev.getD w ev0).v=e.v))::zbs x.ev (W.map (·.1)) (k+1) (x.ev.drop (k+1)) else zbs x.ev (W.map (·.1)) (k+1) (x.ev.drop (k+1))):=hspec;rw [Gn h] at hspec;exact nxI (by omega) ⟨(k+1,dn,xs,(p1,c1),(p2,c2)),(cvE rfl rfl),⟨hkl,hspec,by show dn.length<=k+1;omega,hxs,hmY,fBY,gY,fun y hy=>(hWo y hy).below hbY,fun y hy=>(hxo y hy).below hbY,ho1.below hbY,ho2.below hbY,hd1,hd2⟩,zdc (by omega)⟩
  ·have h1:decide ((e.k.toNat:Int)=1)=true:=by simpa using h
   have h:e.k=1:=ji.1 (dT h1);obtain⟨l,hle⟩:∃ l,e.l.toNat=l:=⟨_,rfl⟩;have hll:l<locs:=by rw [<- hle];exact hv e hem (.inl h)
   have hlW:l<W.length:=by omega
   obtain⟨y,hy⟩:∃ y,W[l]?=some y:=⟨_,gE hlW⟩;have hym:y∈W:=JZ hy;have hgd:(W.map (·.1)).getD l []=y.1:=by rw [gDe,KV,hy];rfl
   obtain⟨P,hP⟩:∃ P:Nat->Bool,P=fun w=>decide ((x.ev.getD w ev0).v=e.v):=⟨_,rfl⟩;have hspec:RS=dn++(k,y.1.filter P)::zbs x.ev (W.map (·.1)) (k+1) (x.ev.drop (k+1)):=by
    have hspec:RS=dn++(if e.k=1 then (k,((W.map (·.1)).getD e.l.toNat []).filter fun w=>decide ((x.ev.getD w ev0).v=e.v))::zbs x.ev (W.map (·.1)) (k+1) (x.ev.drop (k+1)) else zbs x.ev (W.map (·.1)) (k+1) (x.ev.drop (k+1))):=hspec;rw [Gp h,hle,hgd,<- hP] at hspec;exact hspec
   obtain⟨hy48,hyb⟩:=hWb y hym;have hyo:=(hWo y hym).below hbY;have hrl:(zdp W)[l]?=some (slV y):=by unfold zdp;rw [KV,hy];rfl
   have hd:Bw Y Y.drew:=(Gb _ Y).drew;refine DrawE.ord [] [0,1,2,3,4,5,6,7,8,9] (by kernel_rfl) ⟨_,j0 (hdr hmY) (i:=2) rfl,u8 e.l,zc (za (hdr fY)) (i:=2) rfl,l,by rw [<- hle],hll,?_⟩;refine⟨slV y,by have:=zc (za (hdr fBY)) (i:=l*1) (v:=slV y) (by rw [UX];exact hrl);exact this,?_⟩;obtain⟨M,hM⟩:=nm (Y.heap.size);refine⟨Nat×List Nat×OA×Nat,fun s=>⟨[(0,At0 b),(6,i64 (k:Nat)),(7,At0 Z.heap.size),(8,.slice s.2.2.1 s.2.1.length s.2.2.2),(53,.slice (some ⟨bp,op,none⟩) x.ev.length c),(54,i64 x.ev.length),(55,i64 (k:Nat)),(70,slV y),(71,i64 y.1.length),(72,i64 (s.1:Nat))],[]⟩,
    fun s V=>s.1<=y.1.length/\s.2.1=(y.1.take s.1).filter P/\OwnS zw 3 M V s.2.2.1 s.2.2.2 s.2.1/\Below M Y V,fun s=>y.1.length-s.1,(0,[],none,0),
    (cvE rfl rfl),⟨UZ _,rfl,OwnS.nil,by rw [hM];exact hd⟩,?_⟩
   rintro⟨i,fr,p3,c3⟩ V ⟨hi,hfr,hoV,hbV⟩;dsimp only at hi hfr hoV ⊢;have sV:=hbV.size;have hmV:=(hbV.block b (by have:=hlt hmY;omega)).trans hmY;have fEV:=(hbV.block Z.heap.size (by have:=hlt fY;omega)).trans fY;have fBV:=(hbV.block B (by have:=hlt fBY;omega)).trans fBY;have hbYV:Bw Y V:=by rw [hM] at hbV;exact hbV
   have hyoV:=hyo.below hbYV;have hfl:fr.length<=i:=by rw [hfr];exact UM (JM _ _) (by rw [Qv];exact Nat.min_le_left _ _)
   refine biE (fun hc=>?_) fun hc=>?_
   ·have hc:(i:Int)<(y.1.length:Int):=dT hc;have hil:i<y.1.length:=(by omega);have hyi:=hyb y.1[i] (gM hil);have hlV:=zoD hl hqb (jl gY (hbV.mono (by have:=gY.size;omega)));obtain⟨by_,oy,hye,hly,haty⟩:=hyoV.row.at hil;obtain⟨bq,oq,hqe,hlq,hatq⟩:=hlV.at hyi;simp only [Qa,Uu,Gi] at hqe;obtain⟨rfl,rfl⟩:=hqe;have htk:(y.1.take (i+1)).filter P=fr++(if P y.1[i] then [y.1[i]] else []):=by
     rw [tsg hil,Kw,hfr]
     cases hPi:P y.1[i] <;> simp [hPi]
    have hPv:P y.1[i]=decide (x.ev[y.1[i]].v=e.v):=by
     rw [hP];show decide ((x.ev.getD y.1[i] ev0).v=e.v)=_;rw [gDe,gE hyi];rfl
    rw [show slV y = .slice (some ⟨by_,oy,none⟩) y.1.length y.2.2 by unfold slV;rw [hye]];refine⟨i,rfl,hil,i64 y.1[i],zc (haty i hil) (i:=0) rfl,DrawE.ord [] [0,1,2,3,4,5,6,7,8,9,10,11] (by kernel_rfl) ⟨_,zco (hdr hmV),y.1[i],rfl,hyi,?_⟩⟩;have hdV:Bw V V.drew:=(Gb _ V).drew;refine⟨u8 x.ev[y.1[i]].v,by have:=zc (zm hdV (hatq y.1[i] hyi)) (i:=3) (v:=u8 x.ev[y.1[i]].v) rfl;exact this,u8 e.v,zc (za (hdr fEV)) (i:=3) rfl,biE (fun hq=>?_) fun hq=>?_⟩
    ·have hq:x.ev[y.1[i]].v=e.v:=ji.1 (dT hq);rw [hPv,Us hq,Gp rfl] at htk;refine⟨⟨by decide,by decide,rfl⟩,zw.enc y.1[i],rfl,?_⟩;have hba:Below V.drew.heap.size V.drew (V.drew.alloc (.cells (zw.enc y.1[i]).toArray 3)):=zba _ _;refine ju (E:=zw) (T:=3) (B:=M) (l:=fr) (news:=[y.1[i]]) (cap:=c3) (m:=1) Tryz.underlying66 k3 rfl rfl rfl (hoV.below (hdV.trans hba)) rfl (qN zw y.1[i]) (by have:=hba.size;have:=hdV.size;omega) (by omega) (by show (fr.length+1)*8<=_;omega) ?_;intro p4 c4 U oU gU hbU hat4;exact nxI (by omega) ⟨(i+1,fr++[y.1[i]],p4,c4),(cvE rfl rfl),⟨hil,htk.symm,oU,((hbV.trans (hdV.mono (by omega))).trans (hba.mono (by have:=hdV.size;omega))).trans hbU⟩,zdc (by omega)⟩
    ·have hq:¬ x.ev[y.1[i]].v=e.v:=fun e'=>dF hq (by rw [e']);rw [hPv,Uh hq] at htk;simp only [Ku,Gk,QK] at htk;exact nxI (by omega) ⟨(i+1,fr,p3,c3),(cvE rfl rfl),⟨hil,htk.symm,hoV.below hdV,hbV.trans (hdV.mono (by omega))⟩,zdc (by omega)⟩
   ·have hc:¬ (i:Int)<(y.1.length:Int):=dF hc;obtain rfl:i=y.1.length:=(by omega);rw [Qx] at hfr;have hbMB:B<=M:=(by have:=hlt fBY;omega);have hxlen:xs.length=dn.length:=by
     have:=Gj List.length hxs;simpa using this
    refine⟨.slice p1 (dn.map (·.1)).length c1,j0 hmV (i:=0) rfl,⟨by decide,by decide,rfl⟩,zw.enc k,rfl,?_⟩;obtain⟨V1,hV1⟩:=nm (V.alloc (.cells (zw.enc k).toArray 3));have hb1:Bw V V1:=(by rw [hV1];exact (zba _ _));have s1:V1.heap.size=V.heap.size+1:=(by rw [hV1];exact wz _ _);have hZV:Bw Z V:=zst hbY hbYV;have hZV1:Bw Z V1:=zst hZV hb1;have ho1V:=ho1.below hZV1;rw [<- hV1];refine zo7 ho1V (by rw [hV1];exact qN zw k) (by omega) (by rw [QN];omega) fun q1 d1 U oU gU hat1=>?_;rw [zag] at gU;have hmV1:=zb hb1 hmV;have hmU:=zZ hmV1 ho1V (by decide) gU;have fBU:=zZ (zb hb1 fBV) ho1V (by decide) gU;refine zk k66 hmU (o:=0+333) (v := .slice q1 (dn.map (·.1)++[k]).length d1) rfl rfl (by rw [lap,zC];show 333<336;decide) rfl fun S fS gS sS=>?_;rw [show 0+333=333+0 from rfl,ziq] at fS;have fS:zaY S b x (some ⟨bp,op,none⟩) c [.slice q1 (dn.map (·.1)++[k]).length d1,.slice p2 xs.length c2,.slice (some ⟨B,0,none⟩) locs locs]:=fS;have p1M:∀ a,p1=some a->a.block<M:=fun a ha=>by have:=(zq ho1 ha).2.1;have:=hbY.size;omega
    have hoU:OwnS zw 3 M U p3 c3 fr:=zcO (hoV.below hb1) gU fun a b' ha hb e=>by have:=p1M a ha;have:=(zq hoV hb).1;omega
    have hWU:∀ y∈W,OwnS zw 3 B U y.2.1 y.2.2 y.1:=fun y hy=>zcO ((hWo y hy).below hZV1) gU fun a b' ha hb=>hd1 a ha y (.inr hy) b' hb;have hxU:∀ y∈xs,OwnS zw 3 B U y.2.1 y.2.2 y.1:=fun y hy=>zcO ((hxo y hy).below hZV1) gU fun a b' ha hb=>hd1 a ha y (.inl hy) b' hb;have ho2U:=jZ (ho2.below hZV1) ho1V (by decide) gU;have hoS:=qa hoU hmU (by decide) gS;have hWS:∀ y∈W,OwnS zw 3 B S y.2.1 y.2.2 y.1:=fun y hy=>qa (hWU y hy) hmU (by decide) gS;have hxS:∀ y∈xs,OwnS zw 3 B S y.2.1 y.2.2 y.1:=fun y hy=>qa (hxU y hy) hmU (by decide) gS;have ho2S:=qa ho2U hmU (by decide) gS;have ho1S:=qa oU hmU (by decide) gS;have hBb:B≠b:=(by omega);have fBS:=(gS.block B (hlt fBU) (by simp;omega)).trans fBU;refine⟨_,j0 fS (i:=1) rfl,⟨by decide,by decide,rfl⟩,qW.enc (fr,p3,c3),rfl,?_⟩;obtain⟨S1,hS1⟩:=nm (S.alloc (.cells (qW.enc (fr,p3,c3)).toArray 66));have hbS1:Bw S S1:=(by rw [hS1];exact (zba _ _));have sS1:S1.heap.size=S.heap.size+1:=(by rw [hS1];exact wz _ _);have ho2S1:=ho2S.below hbS1;have sU:=gU.size;unfold zdE zam;show SatR _ _;rw [<- hS1];refine zs4 ho2S1 (by rw [hS1];exact qN qW (fr,p3,c3)) (by omega) (by omega) fun q2 d2 N oN gN hat2=>?_;rw [zag] at gN;have fN:=zZ (zb hbS1 fS) ho2S1 (by decide) gN;refine zk k85 fN (o:=0+334) (v := .slice q2 (xs++[(fr,p3,c3)]).length d2) rfl rfl (by rw [lap,zC];show 334<336;decide) rfl fun O fO gO sO=>?_;rw [show 0+334=333+1 from rfl,ziq] at fO;have fO:zaY O b x (some ⟨bp,op,none⟩) c [.slice q1 ((dn++[(k,fr)]).map (·.1)).length d1,.slice q2 (xs++[(fr,p3,c3)]).length d2,.slice (some ⟨B,0,none⟩) locs locs]:=by
     rw [QR];exact fO
    have step:∀ {q:OA} {cc:Nat} {ll:List Nat} {B':Nat},OwnS zw 3 B' S q cc ll->OwnS zw 3 B' O q cc ll:=fun h =>
     qa (jZ (h.below hbS1) ho2S1 (by decide) gN) fN (by decide) gO
    have h2B:∀ a,p2=some a->a.block≠B:=hd2;have fBO:RowLH O B W:=by
     have h1:=zb hbS1 fBS;have h2:=(gN.block B (hlt h1) fun e=>by
      cases hp:p2 with
      | none=>rw [hp] at e;cases e
      | some a =>
       rw [hp] at e;simp only [Ue,Qa] at e;exact hd2 a hp e.symm).trans h1
     exact (gO.block B (hlt h2) (by simp;omega)).trans h2
    have newr:∀ a,q1=some a->p1=some a\/V.heap.size<=a.block:=fun a ha=>(hat1 a ha).imp id fun h=>by omega
    have new2:∀ a,q2=some a->p2=some a\/U.heap.size<=a.block:=fun a ha=>(hat2 a ha).imp id fun h=>by omega
    have frM:∀ a,p3=some a->M<=a.block/\a.block<V.heap.size:=fun a ha=>⟨(zq hoV ha).1,(zq hoV ha).2.1⟩;have hwb:w.grownBy O (some b):=by
     have sG:=gS.size;have sZ:=hlt fZ;have e0:Below B Z V1:=hZV1.mono (by omega);have e1:Below B V1 U:=jk ho1V (by omega) (UW _) gU;have e2:Below B S S1:=hbS1.mono (by omega);have e3:Below B S1 N:=jk ho2S1 (by omega) (UW _) gN;rw [hB] at e0 e1 e2 e3;exact zd (jl (jl (zd (jl (jl gZ e0) e1) gS) e2) e3) gO
    refine nxI (by omega) ⟨(k+1,dn++[(k,fr)],xs++[(fr,p3,c3)],(q1,d1),(q2,d2)),(cvE rfl rfl),⟨hkl,?_,?_,?_,fO,fBO,hwb,fun y hy=>step (hWS y hy),fun y hy=>?_,?_,qa oN fN (by decide) gO,fun a ha y hy b' hb'=>?_,fun a ha=>?_⟩,zdc (by omega)⟩
    ·show RS=(dn++[(k,fr)])++_;rw [hspec,<- hfr,KQ];rfl
    ·show (dn++[(k,fr)]).length<=k+1;simp only [lap,Qt,QO];omega
    ·show (xs++[(fr,p3,c3)]).map (·.1)=(dn++[(k,fr)]).map (·.2);rw [QR,QR,hxs];rfl
    ·rcases QS.1 hy with hy | hy
     ·exact step (hxS y hy)
     ·rw [KB.1 hy];exact step (hoS.lower hbMB)
    ·show OwnS zw 3 B O q1 d1 ((dn++[(k,fr)]).map (·.1));rw [QR];exact step ho1S
    ·have old:(y∈xs\/y∈W)\/y=(fr,p3,c3):=by
      rcases hy with hy | hy
      ·rcases QS.1 hy with hy | hy
       ·exact .inl (.inl hy)
       ·exact .inr (KB.1 hy)
      ·exact .inl (.inr hy)
     rcases old with hy | rfl
     ·rcases newr a ha with h | h
      ·exact hd1 a h y hy b' hb'
      ·have:b'.block<Z.heap.size:=by
        rcases hy with hy | hy
        ·exact (zq (hxo y hy) hb').2.1
        ·exact (zq (hWo y hy) hb').2.1
       have:=hZV.size;omega
     ·have h3:=frM b' hb';rcases newr a ha with h | h
      ·have:=p1M a h;omega
      ·omega
    ·rcases new2 a ha with h | h
     ·exact hd2 a h
     ·omega
 ·have hc:¬ (k:Int)<(x.ev.length:Int):=dF hc;obtain rfl:k=x.ev.length:=by omega
  rw [Qn] at hspec;have hspec:RS=dn++[]:=hspec;rw [QK] at hspec;subst hspec;refine⟨rfl,⟨p1,p2,some ⟨B,0,none⟩,c1,c2,locs,xs,W,by rw [hWl];rw [QN] at hmZ;exact hmZ,by rw [<- hB];exact ho1,hxs,by rw [<- hB];exact ho2,by rw [<- hB];exact hxo,rfl,?_,by rw [<- hB];exact hWo⟩,gZ⟩;rw [<- hB];have:=fZ.own (B:=B) (UW _) (by unfold maxLen;omega);rw [hWl] at this;exact this
end
theorem zlY {P:Program} {w:Wd} {t ty:TypeId} {a b:Nat} {K:Value->Wd->Prop} (k:K (i64 (min a b:Nat)) w):SatR ((Builtin.min_ #[t,t] ty #[i64 a,i64 b]).run P w) K:=by
 refine SatR.mk (v:=i64 (min a b:Nat)) (w':=w) ?_ k;by_cases h:(b:Int)<a
 ·have e:min a b=b:=Nat.min_eq_right (by omega);rw [e];simp [Builtin.min_,Builtin.min2,i64,h]
 ·have e:min a b=a:=Ua (by omega);rw [e];simp [Builtin.min_,Builtin.min2,i64,h]
section
variable {b o:Nat} {x:ExD} {q:OA} {c:Nat} {w:Wd} {r:Value} {p2 p3:OA} {c2 c3 lim:Nat} {xs ys:List zar}
def zoS (lim:Nat) (fs ws:List (List Nat)):Nat:=match zes lim fs 1 with
 | none=>0
 | some n=>zfs lim ws n
theorem zqm (hm:zx w ⟨b,o,none⟩ (exC x q c++[r,.slice p2 xs.length c2,.slice p3 ys.length c3])) (h2:SlR qW w p2 xs) (h3:SlR qW w p3 ys) (hx:∀ y∈xs,y.1.length<=1000) (hy:∀ y∈ys,y.1.length<=1000) (hxl:xs.length<=1000) (hyl:ys.length<=1000) (hl0:1<=lim) (hl:lim<=100000) :
  Calls PG 25 #[.pointer (some ⟨b,o,none⟩),i64 lim] w fun e w'=>e = .returned (i64 (zoS lim (xs.map (·.1)) (ys.map (·.1)):Nat))/\w=w':=by
 refine zH 52 [.pointer (some ⟨b,o,none⟩),i64 lim] Tryz.func25 ?_;have g2:w.cell? ⟨b,o+334,none⟩=some (.slice p2 xs.length c2):=zc hm (zfD (i:=1) rfl);have g3:w.cell? ⟨b,o+335,none⟩=some (.slice p3 ys.length c3):=zc hm (zfD (i:=2) rfl);refine⟨_,g2,?_⟩;obtain⟨fs,hfs⟩:=nm (xs.map (·.1));have hfl:fs.length=xs.length:=by rw [hfs,QN]
 rw [<- hfs];refine⟨Nat×Nat,fun s=>⟨[(0,.pointer (some ⟨b,o,none⟩)),(1,i64 lim),(5,i64 (s.2:Nat)),(14,.slice p2 xs.length c2),(15,i64 xs.length),(16,i64 (s.1:Nat))],[]⟩,
  fun s X=>s.1<=xs.length/\s.2<=lim/\zes lim (fs.drop s.1) s.2=zes lim fs 1/\w=X,fun s=>xs.length-s.1,(0,1),
  (cvE rfl rfl),⟨UZ _,hl0,rfl,rfl⟩,?_⟩
 rintro⟨k,n⟩ _ ⟨hk,hnl,hacc,rfl⟩;dsimp only at hk hnl hacc ⊢;refine biE (fun hc=>?_) fun hc=>?_
 ·have hc:(k:Int)<(xs.length:Int):=dT hc;have hkl:k<xs.length:=by omega
  obtain⟨bp,op,rfl,hlp,hat⟩:=h2.at hkl;have hfk:fs[k]'(by omega)=xs[k].1:=by simp [hfs]
  rw [<- JF (show k<fs.length by omega),hfk] at hacc;have hacc:(if xs[k].1=[] then none else zes lim (fs.drop (k+1)) (min (n*xs[k].1.length) lim))=zes lim fs 1:=hacc;have h1000:=hx xs[k] (gM hkl);refine⟨k,rfl,hkl,slV xs[k],zc (hat k hkl) (i:=0) rfl,biE (fun h=>?_) fun h=>?_⟩
  ·have h:(xs[k].1.length:Int)=0:=dT h;have h0:xs[k].1=[]:=Jg (by omega);rw [Gp h0] at hacc;refine⟨?_,rfl⟩;unfold zoS;rw [<- hacc];rfl
  ·have h:¬ (xs[k].1.length:Int)=0:=dF h;have h0:xs[k].1≠[]:=fun e=>h (by rw [e];rfl);rw [Gn h0] at hacc;have hm':n*xs[k].1.length<=100000*1000:=Uq (by omega) h1000;exact⟨((n*xs[k].1.length:Nat):Int),by rw [QI];exact ze (by rw [<- QI];omega),zlY (nxI (by omega) ⟨(k+1,min (n*xs[k].1.length) lim),(cvE rfl rfl),⟨hkl,QC _ _,hacc,rfl⟩,zdc (by omega)⟩)⟩
 have hc:¬ (k:Int)<(xs.length:Int):=dF hc;rw [JB (by omega)] at hacc;have hacc:some n=zes lim fs 1:=hacc;have hres:zoS lim fs (ys.map (·.1))=zfs lim (ys.map (·.1)) n:=by unfold zoS;rw [<- hacc]
 rw [hres];obtain⟨ws,hws⟩:=nm (ys.map (·.1));have hwl:ws.length=ys.length:=by rw [hws,QN]
 rw [<- hws];clear hres hacc hc hk hfl hfs g2;refine⟨_,g3,?_⟩;refine⟨Nat×Nat,fun s=>⟨[(0,.pointer (some ⟨b,o,none⟩)),(1,i64 lim),(5,i64 (s.2:Nat)),(33,.slice p3 ys.length c3),(34,i64 ys.length),(35,i64 (s.1:Nat))],[]⟩,
  fun s X=>s.1<=ys.length/\s.2<=lim/\zfs lim (ws.drop s.1) s.2=zfs lim ws n/\w=X,fun s=>ys.length-s.1,(0,n),
  (cvE rfl rfl),⟨UZ _,hnl,rfl,rfl⟩,?_⟩
 rintro⟨k,n'⟩ _ ⟨hk,hnl',hacc,rfl⟩;dsimp only at hk hnl' hacc ⊢;refine biE (fun hc=>?_) fun hc=>?_
 ·have hc:(k:Int)<(ys.length:Int):=dT hc;have hkl:k<ys.length:=by omega
  obtain⟨bp,op,rfl,hlp,hat⟩:=h3.at hkl;have hfk:ws[k]'(by omega)=ys[k].1:=by simp [hws]
  rw [<- JF (show k<ws.length by omega),hfk] at hacc;obtain⟨L,hL⟩:=nm (ys[k].1.length);have hacc:zfs lim (ws.drop (k+1)) (zft lim L L 2 n')=zfs lim ws n:=by rw [hL];exact hacc
  have h1000:=hy ys[k] (gM hkl);rw [<- hL] at h1000;refine⟨k,rfl,hkl,slV ys[k],zc (hat k hkl) (i:=0) rfl,?_⟩;refine⟨Nat×Nat×Nat,fun s=>⟨[(0,.pointer (some ⟨b,o,none⟩)),(1,i64 lim),(5,i64 (s.2.2:Nat)),(9,slV ys[k]),(10,i64 (s.2.1:Nat)),(33,.slice (some ⟨bp,op,none⟩) ys.length c3),(34,i64 ys.length),(35,i64 (k:Nat))],[]⟩,
   fun s X=>s.2.2<=lim/\L<=s.2.1+s.1/\s.2.1<=L+2/\zft lim L s.1 s.2.1 s.2.2=zft lim L L 2 n'/\w=X,fun s=>s.1,(L,2,n'),
   (cvE rfl rfl),⟨hnl',by show L<=2+L;omega,by show 2<=L+2;omega,rfl,rfl⟩,?_⟩
  rintro⟨m,j,n2⟩ _ ⟨hn2,hLj,hjL,hK,rfl⟩;dsimp only at hn2 hLj hjL hK ⊢;refine biE (fun hc=>?_) fun hc=>?_
  ·have hc:(j:Int)<(ys[k].1.length:Int):=dT hc;have hjl:j<L:=by omega
   obtain⟨m,rfl⟩:∃ m',m=m'+1:=⟨m-1,by omega⟩;have hK:(if j<L then zft lim L m (j+1) (min (n2*j) lim) else n2)=zft lim L L 2 n':=hK;rw [Gp hjl] at hK;have hm':n2*j<=100000*1000:=Uq (by omega) (by omega);exact⟨((n2*j:Nat):Int),by rw [QI];exact ze (by rw [<- QI];omega),zlY (nxI (by omega) ⟨(m,j+1,min (n2*j) lim),(cvE rfl rfl),⟨QC _ _,by show L<=j+1+m;omega,by show j+1<=L+2;omega,hK,rfl⟩,QB _⟩)⟩
  ·have hc:¬ (j:Int)<(ys[k].1.length:Int):=dF hc;have hjl:¬ j<L:=by omega
   have hK2:n2=zft lim L L 2 n':=by
    rw [<- hK]
    cases m with
    | zero=>rfl
    | succ m =>
     show n2=if j<L then _ else n2
     rw [Gn hjl]
   exact nxI (by omega) ⟨(k+1,n2),(cvE rfl rfl),⟨hkl,hn2,by rw [hK2];exact hacc,rfl⟩,zdc (by omega)⟩
 ·have hc:¬ (k:Int)<(ys.length:Int):=dF hc;rw [JB (by omega)] at hacc;have hacc:n'=zfs lim ws n:=hacc;rw [<- hacc];exact⟨rfl,rfl⟩
end
theorem zX:(zkp).toArray.size=333:=by kernel_rfl
theorem jz:(zcF).toArray.size=336:=by kernel_rfl
section
variable {w:Wd}
theorem zqh {n:Nat}:CB 78 #[i64 n] w (.agg (exC (ex0 n) none 0).toArray):=by
 refine jf 13 [i64 n] (.s .p (.c .p .p)) Tryz.func78 ?_;obtain⟨L,hL⟩:=nm (w.heap.size);obtain⟨X0,hX0⟩:=nm (w.alloc (.cells (zkp).toArray 55));have f0:X0.heap[L]?=some (.cells (zkp).toArray 55 (0,0)):=by rw [hX0,hL];exact zy w _
 have s0:X0.heap.size=L+1:=by rw [hX0,hL];exact wz _ _
 have hb0:Bw w X0:=by rw [hX0];exact (zba w _)
 refine⟨Unit,fun _=>⟨[(2,At0 L),(3,At0 (L+1))],[]⟩,fun _ X=>X.heap[L]?=some (.cells (zkp).toArray 55 (0,0))/\zaX X (L+1) (zcE n)/\Bw w X,?_,?_⟩
 ·refine⟨zj (zcE n),rfl,zn (X:=w.alloc (.cells (zkp).toArray 55 (0,0))) (v := .agg (zj (zcE n)).toArray) k48 (zh _) (by kernel_rfl) (qm _) fun V hbV fV sV=>?_⟩;rw [<- hX0] at hbV fV sV;rw [s0] at fV sV;exact⟨(),⟨.cons (by rw [hL];rfl) (.cons (by rw [<- s0,hX0];rfl) .nil),rfl⟩,zb hbV f0,fV,(zst hb0 hbV)⟩
 rintro _ X ⟨f1,f2,hbX⟩;refine⟨zj (zcE n),zh _,za f2,hlt f2,zj (zcE n),zh _,za f2,hlt f2,zj (zcE n),zh _,za f2,hlt f2,zj (zcE n),zh _,za f2,hlt f2,zj (zcE n),zh _,za f2,hlt f2,zj (zcE n),zh _,za f2,hlt f2,exC (ex0 n) none 0,by kernel_rfl,?_⟩;exact zI (v := .agg (exC (ex0 n) none 0).toArray) k55 f1 (zC _ _ _) zX (zbf _ _ _) ⟨exC (ex0 n) none 0,zC _ _ _,za (zz f1),rfl,zA hbX (by omega) _⟩
end
structure PathB (locs:Nat) (P:PathD):Prop where
 ev:P.ev.length<=24
 loc:∀ e∈P.ev,e.k=1\/e.k=2->e.l.toNat<locs
 dt:∀ p∈P.data,p.1<P.ev.length/\p.2<P.ev.length
 ct:∀ p∈P.ctrl,p.1<P.ev.length/\p.2<P.ev.length
 rm:∀ p∈P.rmw,p.1<P.ev.length/\p.2<P.ev.length
 dtl:P.data.length<=100000
 ctl:P.ctrl.length<=100000
 rml:P.rmw.length<=100000
structure PthS (B:Nat) (w:Wd) (x:zc2):Prop where
 lt:∀ a,x.2.2.1.1=some a\/x.2.2.2.1.1=some a\/x.2.2.2.2.1=some a->a.block<B
 ev:SlR evE w x.2.1.1 x.1.ev
 dt:SlR prE w x.2.2.1.1 x.1.data
 ct:SlR prE w x.2.2.2.1.1 x.1.ctrl
 rm:SlR prE w x.2.2.2.2.1 x.1.rmw
theorem PthS.below {B:Nat} {w X:Wd} {x:zc2} (h:PthS B w x) (hb:Bw w X):PthS B X x:=⟨h.lt,h.ev.below hb,h.dt.below hb,h.ct.below hb,h.rm.below hb⟩
theorem z5:∀ (vs:List UInt8) (l:Nat),(jc l vs).length=vs.length
 | [],_=>rfl
 | v::vs,l=>by
  show (jc (l+1) vs).length+1=vs.length+1;rw [z5 vs]
theorem zaS:∀ (vs:List UInt8) (l:Nat) {k:Nat} (h:k<vs.length),(jc l vs)[k]?=some ⟨-1,2,UInt8.ofNat (l+k),vs[k],0,0,0⟩
 | [],_,_,h=>by cases h
 | v::vs,l,0,_=>rfl
 | v::vs,l,k+1,h=>by
  show (jc (l+1) vs)[k]?=_;rw [zaS vs (l+1) (Nat.lt_of_succ_lt_succ h),UD,UK 1 k];rfl
theorem zjJ {vs:List UInt8} {k:Nat} (h:k<vs.length):(jc 0 vs).take (k+1)=(jc 0 vs).take k++[⟨-1,2,UInt8.ofNat k,vs[k],0,0,0⟩]:=by
 have hl:k<(jc 0 vs).length:=by rw [z5];exact h
 have:=zaS vs 0 h;rw [gE hl,UR] at this;rw [tsg hl,Uf this]
theorem zfQ (n:Nat) (Ps:List PathD):n<=Ps.foldl (fun n P=>n+P.ev.length) n:=by
 induction Ps generalizing n with
 | nil=>exact UW _
 | cons P Ps ih=>exact UM (Qz _ _) (ih (n+P.ev.length))
theorem zsz {B c:Nat} {V1:Wd} {p:OA} {l:List Ev} {y:Ev} {a:Addr} (ho:OwnS evE 60 B V1 p c l) (ha:zx V1 a ([y].flatMap evE.enc)) (hB:B<=V1.heap.size) (hl:l.length<=100000) {K:Value->Wd->Prop}
  (h:∀ p' c' w',OwnS evE 60 B w' p' c' (l++[y])->V1.grownBy w' (p.map Addr.block)->(∀ a,p'=some a->p=some a\/a.block=V1.heap.size)->K (.slice p' (l++[y]).length c') w') :
  SatR ((Builtin.append_ #[43,43] 43 #[.slice p l.length c,.slice (some a) 1 1]).run PG V1) K :=
 ju (E:=evE) (T:=60) (B:=B) (l:=l) (news:=[y]) (cap:=c) (m:=1) Tryz.underlying43 k60 rfl rfl rfl ho rfl ha hB (by omega) (by show (l.length+1)*16<=_;omega) fun p' c' w' a1 a2 _ a4=>h p' c' w' a1 (by rw [zag] at a2;exact a2) a4
theorem zi6 {f g:Nat->UInt8}:∀ {k:Nat},k<4->(seg 32 (fun i=>u8 (f i))).take (k*8)++seg 8 (fun i=>u8 (g i))++(seg 32 (fun i=>u8 (f i))).drop (k*8+8)=seg 32 (fun i=>u8 (if i/8=k then g (i%8) else f i))
 | 0,_=>by kernel_rfl
 | 1,_=>by kernel_rfl
 | 2,_=>by kernel_rfl
 | 3,_=>by kernel_rfl
 | k+4,h=>by omega
theorem zf6 {A Z l r:List Value} {n o m:Nat} (hA:A.length=n) (hl:o+m<=l.length) (hr:r.length=m):(A++(l++Z)).take (n+o)++r++(A++(l++Z)).drop (n+o+m)=A++((l.take o++r++l.drop (o+m))++Z):=by
 subst hA;rw [List.take_length_add_append,Jh (by omega),UD,Jk,Jf hl];simp only [KQ]
theorem zo6 (k:Nat) (P:PathD) (Ps:List PathD) (x:ExD):asR k (P::Ps) x=asR (k+1) Ps (jT x k P):=rfl
theorem zms {k:Nat} {l:List Ev} {j:Nat} (h:j<l.length):za1 k (l.take (j+1))=za1 k (l.take j)++[{ l[j] with th:=k }]:=by
 rw [tsg h];unfold za1;rw [QR];rfl
theorem zb5 {n f:Nat} {ps:List (Nat×Nat)} (h:∀ p∈ps,p.1<n/\p.2<n) (hf:f+n<=48):zn3 f ps:=fun p hp=>⟨by have:=(h p hp).1;omega,by have:=(h p hp).2;omega⟩
def zsF (B:Nat) (w:Wd) (vs:List Value) (m:MixD):Prop :=
 ∃ (q p1 p2 p3:OA) (c c1 c2 c3:Nat) (xs ys:List zar),vs=exC m.base q c++[.slice p1 m.rs.length c1,.slice p2 xs.length c2,.slice p3 ys.length c3]/\OwnS evE 60 B w q c m.base.ev /\
  OwnS zw 3 B w p1 c1 (m.rs.map (·.1))/\xs.map (·.1)=m.rs.map (·.2)/\OwnS qW 66 B w p2 c2 xs/\(∀ y∈xs,OwnS zw 3 B w y.2.1 y.2.2 y.1) /\
   ys.map (·.1)=m.wr/\OwnS qW 66 B w p3 c3 ys/\∀ y∈ys,OwnS zw 3 B w y.2.1 y.2.2 y.1
section
variable {w:Wd} {bP cl cp ci:Nat} {pc:List Value} {pl pp pi:OA} {init:List UInt8} {Ps:List zc2}
theorem zll (fP:w.heap[bP]?=some (.cells pc.toArray 29 (0,0))) (h1:pc[1]?=some (.slice pl init.length cl)) (h2:pc[2]?=some (.slice pi init.length ci)) (hi:SlR zJ w pi init) (hi6:init.length<=6)
  (hP:SlR jH w pp Ps) (hPs:∀ x∈Ps,PthS w.heap.size w x) (hPb:∀ x∈Ps,PathB init.length x.1) (hP4:Ps.length<=4) :
  Calls PG 46 #[At0 bP,.slice pp Ps.length cp] w fun e w'=>(∃ vs,match zcR init (Ps.map (·.1)) with
   | some m=>e = .returned (.tuple #[.agg vs.toArray,.bool true])/\zsF w.heap.size w' vs m
   | none=>e = .returned (.tuple #[.agg vs.toArray,.bool false])/\vs=zcF)/\Bw w w':=by
 refine jf 143 [At0 bP,.slice pp Ps.length cp] (.c .p (.s .p (.c .p (.s .p (.s .p (.c .p (.c .p (.c .p (.c .p (.c .p .p)))))))))) Tryz.func46 ?_;obtain⟨L,hL⟩:=nm (w.heap.size);obtain⟨N,hN⟩:=nm (zan init.length (Ps.map (·.1)));have hbP:=hlt fP;refine⟨Unit,fun _=>⟨[(0,At0 bP),(1,.slice pp Ps.length cp),(4,At0 L)],[]⟩,fun _ X=>X.heap[L]?=some (.cells (zcF).toArray 87 (0,0))/\Bw w X,?_,?_⟩
 ·exact⟨(),⟨.cons rfl (.cons rfl (.cons (by rw [hL];rfl) .nil)),rfl⟩,by rw [hL];exact zy w _,(zba w _)⟩
 rintro _ X ⟨f0,hbX⟩;have ldP:∀ {X:Wd},Bw w X->∀ {i:Nat} {v:Value},pc[i]?=some v->X.cell? ⟨bP,0+i,none⟩=some v:=fun {X} hb {i v} h=>zc (za ((hb.block bP hbP).trans fP)) (by simpa using h);refine⟨_,ldP hbX h1,Unit,fun _=>⟨[(0,At0 bP),(1,.slice pp Ps.length cp),(4,At0 L),(6,i64 N)],[]⟩,fun _ X=>X.heap[L]?=some (.cells (zcF).toArray 87 (0,0))/\Bw w X,?_,?_⟩
 ·refine⟨Nat×Nat,fun s=>⟨[(0,At0 bP),(1,.slice pp Ps.length cp),(4,At0 L),(6,i64 (s.2:Nat)),(23,.slice pp Ps.length cp),(24,i64 Ps.length),(25,i64 (s.1:Nat))],[]⟩,
   fun s Y=>s.1<=Ps.length/\s.2<=init.length+24*s.1/\((Ps.map (·.1)).drop s.1).foldl (fun n P=>n+P.ev.length) s.2=N/\Y.heap[L]?=some (.cells (zcF).toArray 87 (0,0))/\Bw w Y,fun s=>Ps.length-s.1,(0,init.length),
   (cvE rfl rfl),⟨UZ _,UW _,hN.symm,f0,hbX⟩,?_⟩
  clear f0 hbX;rintro⟨k,n⟩ Y ⟨hk,hn,hacc,f0,hbY⟩;dsimp only at hk hn hacc ⊢;refine biE (fun hc=>?_) fun hc=>?_
  ·have hc:(k:Int)<(Ps.length:Int):=dT hc;have hkl:k<Ps.length:=by omega
   obtain⟨x,hx⟩:∃ x,Ps[k]=x:=⟨_,rfl⟩;have hxm:x∈Ps:=by rw [<- hx];exact gM hkl
   have hdp:(Ps.map (·.1)).drop k=x.1::(Ps.map (·.1)).drop (k+1):=by
    rw [<- JF (show k<(Ps.map (·.1)).length by simpa using hkl)];simp [hx]
   rw [hdp] at hacc;have hev:=(hPb x hxm).ev;obtain⟨bp,op,rfl,hlp,hat⟩:=hP.at hkl;refine⟨k,rfl,hkl,jH.enc x,jH.len x,by rw [<- hx];exact zm hbY (hat k hkl),nL hlp hbY.size,zn (X:=Y) (v := .agg (jH.enc x).toArray) k73 (jH.len x) rfl (Qk.2 fun u hu=>jH.one x u hu) fun Z hbZ fZ sZ=>?_⟩;have fZ:Z.heap[Y.heap.size]?=some (.cells (jH.enc x).toArray 73 (0,0)):=fZ;exact⟨.slice x.2.1.1 x.1.ev.length x.2.1.2,zc (za fZ) (i:=0) rfl,((n+x.1.ev.length:Nat):Int),(ze (by omega)).trans (by omega),nxI (by omega) ⟨(k+1,n+x.1.ev.length),(cvE rfl rfl),⟨hkl,by show n+x.1.ev.length<=init.length+24*(k+1);omega,hacc,zb hbZ f0,(zst hbY hbZ)⟩,zdc (by omega)⟩⟩
  ·have hc:¬ (k:Int)<(Ps.length:Int):=dF hc;rw [JB (by rw [QN];omega)] at hacc;have hacc:n=N:=hacc;subst hacc;exact⟨(),(cvE rfl rfl),f0,hbY⟩
 clear f0 hbX;rintro _ X ⟨f0,hbX⟩;have hmr:zcR init (Ps.map (·.1))=if N<=48 then some (jU (jF init (Ps.map (·.1))) init.length) else none:=by rw [hN];rfl
 have hLX:=hlt f0;refine biE (fun h=>?_) fun h=>?_
 ·have h:(48:Int)<(N:Nat):=dT h;rw [hmr,Gn (by omega)];refine⟨zcF,by kernel_rfl,?_⟩;exact zI (v := .agg (zcF).toArray) k87 f0 jz jz (by kernel_rfl) ⟨zcF,jz,za (zz f0),⟨_,rfl,rfl⟩,zA hbX (by omega) _⟩
 have h:¬ (48:Int)<(N:Nat):=dF h;have hN48:N<=48:=by omega
 rw [hmr,Gp hN48];refine cmo zqh ?_;rintro e Y ⟨rfl,hbY⟩;refine⟨exC (ex0 N) none 0++[zO,zO,zO],by kernel_rfl,?_⟩;refine zn (X:=Y) (v := .agg (exC (ex0 N) none 0++[zO,zO,zO]).toArray) k87 (by show (exC (ex0 N) none 0++[zO,zO,zO]).length=_;rw [lap,zC];rfl) jz (by show (exC (ex0 N) none 0++[zO,zO,zO]).all _=true;rw [QJ,zbf];rfl) fun V hbV fV sV=>⟨Nat,fun M=>⟨[(0,At0 bP),(1,.slice pp Ps.length cp),(4,At0 L),(9,At0 M),(10,At0 M)],[]⟩,fun M X=>L<M/\zaY X M (ex0 N) none 0 [zO,zO,zO]/\X.heap[L]?=some (.cells (zcF).toArray 87 (0,0))/\Bw w X,?_,?_⟩
 ·exact⟨Y.heap.size,(cvE rfl rfl),by have:=hbY.size;omega,fV,zb hbV (zb hbY f0),((zst hbX hbY)).trans (hbV.mono (by have:=hbX.size;have:=hbY.size;omega))⟩
 clear fV sV hbV V hbY Y;clear f0 hbX hLX;rintro M X ⟨hLM,fM,f0,hbX⟩;dsimp only at fM ⊢;refine⟨OA×Nat,fun _=>⟨[(0,At0 bP),(1,.slice pp Ps.length cp),(4,At0 L),(9,At0 M),(10,At0 M)],[]⟩,fun s X=>zaY X M { ex0 N with ev:=jc 0 init } s.1 s.2 [zO,zO,zO]/\OwnS evE 60 w.heap.size X s.1 s.2 (jc 0 init)/\X.heap[L]?=some (.cells (zcF).toArray 87 (0,0))/\Bw w X,?_,?_⟩
 ·refine⟨_,ldP hbX h2,?_⟩;refine⟨Nat×OA×Nat,fun s=>⟨[(0,At0 bP),(1,.slice pp Ps.length cp),(4,At0 L),(9,At0 M),(10,At0 M),(45,.slice pi init.length ci),(46,i64 init.length),(47,i64 (s.1:Nat))],[]⟩,
   fun s Y=>s.1<=init.length/\zaY Y M { ex0 N with ev:=(jc 0 init).take s.1 } s.2.1 s.2.2 [zO,zO,zO]/\OwnS evE 60 w.heap.size Y s.2.1 s.2.2 ((jc 0 init).take s.1)/\Y.heap[L]?=some (.cells (zcF).toArray 87 (0,0))/\Bw w Y,fun s=>init.length-s.1,(0,none,0),
   (cvE rfl rfl),⟨UZ _,fM,OwnS.nil,f0,hbX⟩,?_⟩
  clear fM f0 hbX;rintro⟨k,q,c⟩ Y ⟨hk,fM,ho,f0,hbY⟩;dsimp only at hk fM ho ⊢;refine biE (fun hc=>?_) fun hc=>?_
  ·have hc:(k:Int)<(init.length:Int):=dT hc;have hkl:k<init.length:=by omega
   obtain⟨bi,oi,rfl,hli,hat⟩:=hi.at hkl;have htk:=zjJ hkl;have htl:((jc 0 init).take k).length=k:=by rw [Qv,z5];omega
   refine⟨k,rfl,hkl,u8 init[k],zc (zm hbY (hat k hkl)) (i:=0) rfl,_,zco fM,_,w8N k,?_⟩;obtain⟨e,he⟩:∃ e:Ev,e=⟨-1,2,UInt8.ofNat k,init[k],0,0,0⟩:=⟨_,rfl⟩;refine⟨evE.enc e,by rw [he];rfl,?_⟩;refine⟨⟨by decide,by decide,rfl⟩,evE.enc e,za4 rfl rfl,?_⟩;obtain⟨Y1,hY1⟩:=nm (Y.alloc (.cells (evE.enc e).toArray 60));have hb1:Bw Y Y1:=by rw [hY1];exact (zba _ _)
   have sY:=hbY.size;have ho1:=ho.below hb1;unfold zdE zam;show SatR _ _;rw [<- hY1];refine zsz ho1 (by rw [hY1];exact qN evE e) (by have:=hb1.size;omega) (by omega) fun q1 c1 U oU gU hat1=>?_;have fMU:=zZ (zb hb1 fM) ho1 (by decide) gU;have f0U:=zZ (zb hb1 f0) ho1 (by decide) gU;refine zk k43 fMU (o:=0+0) (v := .slice q1 ((jc 0 init).take k++[e]).length c1) rfl rfl (by rw [lap,zC];decide) rfl fun S fS gS sS=>?_;rw [show 0+0=0 from rfl,zqY,he,<- htk] at fS;refine nxI (by omega) ⟨(k+1,q1,c1),(cvE rfl rfl),⟨hkl,fS,by rw [he,<- htk] at oU;exact qa oU fMU (by decide) gS,(gS.block L (hlt f0U) (by simp;omega)).trans f0U,?_⟩,zdc (by omega)⟩;have sU:=gU.size;have s1:=hb1.size;exact ((hbY.trans (hb1.mono sY)).trans (jk ho1 (by omega) (UW _) gU)).trans (zi gS (by omega) (by omega))
  ·have hc:¬ (k:Int)<(init.length:Int):=dF hc;obtain rfl:k=init.length:=by omega
   have e:(jc 0 init).take init.length=jc 0 init:=JH (by rw [z5];exact UW _);rw [e] at fM ho;exact⟨(q,c),(cvE rfl rfl),fM,ho,f0,hbY⟩
 clear fM f0 hbX;rintro⟨q,c⟩ X ⟨fM,ho,f0,hbX⟩;dsimp only at fM ho ⊢;obtain⟨x0,hx0⟩:∃ x0:ExD,x0={ ex0 N with ev:=jc 0 init }:=⟨_,rfl⟩;have hx0e:x0.ev=jc 0 init:=by rw [hx0]
 rw [<- hx0] at fM;rw [<- hx0e] at ho;refine⟨OA×Nat,fun _=>⟨[(0,At0 bP),(1,.slice pp Ps.length cp),(4,At0 L),(9,At0 M),(10,At0 M)],[]⟩,fun s X=>zaY X M (asR 0 (Ps.map (·.1)) x0) s.1 s.2 [zO,zO,zO]/\OwnS evE 60 w.heap.size X s.1 s.2 (asR 0 (Ps.map (·.1)) x0).ev/\(asR 0 (Ps.map (·.1)) x0).ev.length=N/\(∀ e∈(asR 0 (Ps.map (·.1)) x0).ev,e.k=1\/e.k=2->e.l.toNat<init.length)/\X.heap[L]?=some (.cells (zcF).toArray 87 (0,0))/\Bw w X,?_,?_⟩
 ·refine⟨Nat×ExD×OA×Nat,fun s=>⟨[(0,At0 bP),(1,.slice pp Ps.length cp),(4,At0 L),(9,At0 M),(10,At0 M),(66,.slice pp Ps.length cp),(67,i64 Ps.length),(68,i64 (s.1:Nat))],[]⟩,
   fun s Y=>s.1<=Ps.length/\asR s.1 ((Ps.map (·.1)).drop s.1) s.2.1=asR 0 (Ps.map (·.1)) x0/\((Ps.map (·.1)).drop s.1).foldl (fun n P=>n+P.ev.length) s.2.1.ev.length=N/\(zV s.2.1.dt.to/\zV s.2.1.ct.to/\zV s.2.1.rm.to)/\(∀ e∈s.2.1.ev,e.k=1\/e.k=2->e.l.toNat<init.length) /\
    zaY Y M s.2.1 s.2.2.1 s.2.2.2 [zO,zO,zO]/\OwnS evE 60 w.heap.size Y s.2.2.1 s.2.2.2 s.2.1.ev/\Y.heap[L]?=some (.cells (zcF).toArray 87 (0,0))/\Bw w Y,fun s=>Ps.length-s.1,(0,x0,q,c),
   (cvE rfl rfl),⟨UZ _,rfl,by rw [hN,hx0e,z5];rfl,?_,?_,fM,ho,f0,hbX⟩,?_⟩
  ·rw [hx0];exact⟨fun i _=>(by decide:0<2^64),fun i _=>(by decide:0<2^64),fun i _=>(by decide:0<2^64)⟩
  ·intro e he _;rw [hx0e] at he;obtain⟨j,hj⟩:=List.mem_iff_getElem?.1 he;have hjl:j<init.length:=by
    have:=(Js.1 hj).1
    rwa [z5] at this
   rw [zaS init 0 hjl] at hj;rw [<- Uf hj];show (UInt8.ofNat (0+j)).toNat<init.length;have:=zkt (n:=0+j) (by omega);omega
  clear fM ho f0 hbX;rintro⟨k,x,q,c⟩ Y ⟨hk,hacc,hfold,⟨hw1,hw2,hw3⟩,hloc,fM,ho,f0,hbY⟩;dsimp only at hk hacc hfold hw1 hw2 hw3 hloc fM ho ⊢;refine biE (fun hc=>?_) fun hc=>?_
  ·have hc:(k:Int)<(Ps.length:Int):=dT hc;have hkl:k<Ps.length:=by omega
   obtain⟨y,hy⟩:∃ y,Ps[k]=y:=⟨_,rfl⟩;have hym:y∈Ps:=by rw [<- hy];exact gM hkl
   have hdp:(Ps.map (·.1)).drop k=y.1::(Ps.map (·.1)).drop (k+1):=by
    rw [<- JF (show k<(Ps.map (·.1)).length by simpa using hkl)];simp [hy]
   rw [hdp] at hacc hfold;rw [zo6] at hacc;have hfold:((Ps.map (·.1)).drop (k+1)).foldl (fun n P=>n+P.ev.length) (x.ev.length+y.1.ev.length)=N:=hfold;have hsz:=zfQ (x.ev.length+y.1.ev.length) ((Ps.map (·.1)).drop (k+1));rw [hfold] at hsz;obtain⟨b24,bloc,bdt,bct,brm,ldt,lct,lrm⟩:=hPb y hym;obtain⟨bp,op,rfl,hlp,hat⟩:=hP.at hkl;refine⟨k,rfl,hkl,jH.enc y,jH.len y,by rw [<- hy];exact zm hbY (hat k hkl),nL hlp hbY.size,zn (X:=Y) (v := .agg (jH.enc y).toArray) k73 (jH.len y) rfl (Qk.2 fun u hu=>jH.one y u hu) fun Z hbZ fZ sZ=>?_⟩;obtain⟨D,hD⟩:=nm (Y.heap.size);have fD:Z.heap[D]?=some (.cells (jH.enc y).toArray 73 (0,0)):=by rw [hD];exact fZ
   have hMD:M<D:=by rw [hD];exact hlt fM
   have eD:At0 Y.heap.size=At0 D:=by rw [hD]
   have fMZ:=zb hbZ fM;have f0Z:=zb hbZ f0;have hoZ:=ho.below hbZ;have hwZ:=zst hbY hbZ;refine⟨_,zco fMZ,.slice y.2.1.1 y.1.ev.length y.2.1.2,by rw [<- hD];exact zc (za fD) (i:=0) rfl,?_⟩;refine⟨Nat×OA×Nat,fun s=>⟨[(0,At0 bP),(1,.slice (some ⟨bp,op,none⟩) Ps.length cp),(4,At0 L),(9,At0 M),(10,At0 M),(13,i64 (k:Nat)),(14,At0 D),(15,i64 x.ev.length),(66,.slice (some ⟨bp,op,none⟩) Ps.length cp),(67,i64 Ps.length),(68,i64 (k:Nat)),(79,.slice y.2.1.1 y.1.ev.length y.2.1.2),(80,i64 y.1.ev.length),(81,i64 (s.1:Nat))],[]⟩,
    fun s V=>s.1<=y.1.ev.length/\zaY V M { x with ev:=x.ev++za1 k (y.1.ev.take s.1) } s.2.1 s.2.2 [zO,zO,zO]/\OwnS evE 60 w.heap.size V s.2.1 s.2.2 (x.ev++za1 k (y.1.ev.take s.1))/\V.heap[L]?=some (.cells (zcF).toArray 87 (0,0))/\V.heap[D]?=some (.cells (jH.enc y).toArray 73 (0,0))/\Bw w V,fun s=>y.1.ev.length-s.1,(0,q,c),
    ⟨.cons rfl (.cons rfl (.cons rfl (.cons rfl (.cons rfl (.cons rfl (.cons (Gj some eD) (.cons rfl (.cons rfl (.cons rfl (.cons rfl (.cons rfl (.cons rfl (.cons rfl .nil))))))))))))),rfl⟩,⟨UZ _,by show zaY Z M { x with ev:=x.ev++[] } q c _;rw [QK];exact fMZ,by show OwnS _ _ _ Z q c (x.ev++[]);rw [QK];exact hoZ,f0Z,fD,hwZ⟩,?_⟩
   clear fMZ f0Z hoZ hwZ fZ sZ hbZ fM ho f0 hbY;rintro⟨j,q,c⟩ V ⟨hj,fM,ho,f0,fD,hbV⟩;dsimp only at hj fM ho ⊢;have sV:=hbV.size;have hS:=(hPs y hym).below hbV;refine biE (fun hc=>?_) fun hc=>?_
   ·have hc:(j:Int)<(y.1.ev.length:Int):=dT hc;have hjl:j<y.1.ev.length:=(by omega);obtain⟨e,he⟩:∃ e,y.1.ev[j]=e:=⟨_,rfl⟩;have htk:=zms (k:=k) hjl;rw [he] at htk;obtain⟨be,oe,hbe,hle,hate⟩:=hS.ev.at hjl;rw [hbe];refine⟨j,rfl,hjl,evE.enc e,rfl,by rw [<- he];exact hate j hjl,hle,?_⟩;refine zn (X:=V) (v := .agg (evE.enc e).toArray) k60 rfl rfl (Qk.2 fun u hu=>evE.one e u hu) fun T hbT fT sT=>?_;have fT:T.heap[V.heap.size]?=some (.cells (evE.enc e).toArray 60 (0,0)):=fT;refine zk k3 fT (o:=0+0) (v:=i64 (k:Nat)) rfl rfl (by show 0<7;decide) rfl fun T2 fT2 gT2 sT2=>?_;obtain⟨e2,he2⟩:∃ e2:Ev,e2={ e with th:=k }:=⟨_,rfl⟩;have fT2:T2.heap[V.heap.size]?=some (.cells (evE.enc e2).toArray 60 (0,0)):=(by rw [he2];exact fT2);have hVT:Bw V T2:=hbT.trans (zi gT2 (by omega) (UW _));have fM2:=zb hVT fM;have fT3:=hdr fT2;have hd:Bw T2 T2.drew:=(Gb _ T2).drew;have hlenx:(x.ev++za1 k (y.1.ev.take j)).length<=48:=by
     unfold za1;rw [lap,QN,Qv];omega
    have ho2:=ho.below hVT;refine DrawE.ord [7,10] [0,1,2,3,4,5,6,7,8,9,10] (by kernel_rfl) ⟨_,zco (hdr fM2),evE.enc e2,rfl,za fT3,hlt fT3,⟨by decide,by decide,rfl⟩,evE.enc e2,za4 rfl rfl,?_⟩;obtain⟨Y1,hY1⟩:=nm (T2.drew.alloc (.cells (evE.enc e2).toArray 60));have hb1:Bw T2 Y1:=(by rw [hY1];exact hd.trans ((Gb T2.drew.heap.size _).alloc (UW _) _));refine⟨(zba _ _),?_⟩;have sT:=hVT.size;have s1:=hb1.size;have ho3:=ho2.below hb1;unfold zmR zam;show SatR _ _;rw [<- hY1];refine zsz ho3 (by rw [hY1];exact qN evE e2) (by omega) (by omega) fun q1 c1 U oU gU hat1=>?_;have fMU:=zZ (zb hb1 fM2) ho3 (by decide) gU;have f0U:=zZ (zb (hVT.trans (hb1.mono sT)) f0) ho3 (by decide) gU;have fDU:=zZ (zb (hVT.trans (hb1.mono sT)) fD) ho3 (by decide) gU;refine zk k43 fMU (o:=0+0) (v := .slice q1 ((x.ev++za1 k (y.1.ev.take j))++[e2]).length c1) rfl rfl (by rw [lap,zC];decide) rfl fun S fS gS sS=>?_;have hev2:(x.ev++za1 k (y.1.ev.take j))++[e2]=x.ev++za1 k (y.1.ev.take (j+1)):=(by rw [htk,he2,KQ]);rw [show 0+0=0 from rfl,zqY,hev2] at fS;refine nxI (by omega) ⟨(j+1,q1,c1),(cvE rfl rfl),⟨hjl,fS,by rw [hev2] at oU;exact qa oU fMU (by decide) gS,(gS.block L (hlt f0U) (by simp;omega)).trans f0U,(gS.block D (hlt fDU) (by simp;omega)).trans fDU,?_⟩,zdc (by omega)⟩;have sU:=gU.size;exact ((hbV.trans ((hVT.trans (hb1.mono sT)).mono sV)).trans (jk ho3 (by omega) (UW _) gU)).trans (zi gS (by omega) (by omega))
   ·have hc:¬ (j:Int)<(y.1.ev.length:Int):=dF hc;obtain rfl:j=y.1.ev.length:=(by omega);rw [Qx] at fM ho;obtain⟨x1,hx1⟩:∃ x1:ExD,x1={ x with ev:=x.ev++za1 k y.1.ev }:=⟨_,rfl⟩;rw [<- hx1] at fM;have fM0:=fM;have ho0:=ho;have f00:=f0;have fD0:=fD;have hb0:=hbV;have hS0:=hS;obtain⟨x2,hx2⟩:∃ z:ExD,z={ x1 with dt:=zkM x.ev.length y.1.data x.dt }:=⟨_,rfl⟩;obtain⟨A1,Z1,hA1,hE1⟩:=zoz x1 q c [zO,zO,zO];have hx1dt:x1.dt=x.dt:=(by rw [hx1]);have hR1:RelAt V M 148 87 A1 Z1 x.dt:=⟨hA1,by
     have h:=hE1 x1.dt;rw [hx1dt] at h;rw [<- h,<- hx1dt];exact fM0⟩
    have dw1:Bw V V.drew:=(Gb _ _).drew;refine DrawE.ord [6] [0,1,2,3,4,5,6] (by kernel_rfl) ⟨.slice y.2.2.1.1 y.1.data.length y.2.2.1.2,zc (za (hdr fD0)) (i:=1) rfl,cmo (zn2 (f:=x.ev.length) (hR1.same (Y:=V.drew) rfl) hw1 ((hS0.dt).below dw1) (fun a ha=>by have:=hS0.lt a (.inl ha);omega) ldt (zb5 bdt (by omega))) ?_⟩;rintro e V1 ⟨rfl,hRn1,gn1⟩;have g1:V.grownBy V1 (some M):=zd (zf dw1) gn1;have sg1:=g1.size;have fM1:zaY V1 M x2 q c [zO,zO,zO]:=by
     have h:=hRn1.cells;rw [<- hE1] at h;rw [hx2];exact h
    have ho1:=qa ho0 fM0 (by decide) g1;have f01:=(g1.block L (hlt f00) (by simp;omega)).trans f00;have fD1:=(g1.block D (hlt fD0) (by simp;omega)).trans fD0;have hb1:Bw w V1:=hb0.trans (zi g1 hb0.size (by omega));have hS1:=(hPs y hym).below hb1;obtain⟨x3,hx3⟩:∃ z:ExD,z={ x2 with ct:=zkM x.ev.length y.1.ctrl x.ct }:=⟨_,rfl⟩;obtain⟨A2,Z2,hA2,hE2⟩:=zoA x2 q c [zO,zO,zO];have hx2ct:x2.ct=x.ct:=(by rw [hx2];rw [hx1]);have hR2:RelAt V1 M 197 87 A2 Z2 x.ct:=⟨hA2,by
     have h:=hE2 x2.ct;rw [hx2ct] at h;rw [<- h,<- hx2ct];exact fM1⟩
    have dw2:Bw V1 V1.drew:=(Gb _ _).drew;refine DrawE.ord [6] [0,1,2,3,4,5,6] (by kernel_rfl) ⟨.slice y.2.2.2.1.1 y.1.ctrl.length y.2.2.2.1.2,zc (za (hdr fD1)) (i:=2) rfl,cmo (zn2 (f:=x.ev.length) (hR2.same (Y:=V1.drew) rfl) hw2 ((hS1.ct).below dw2) (fun a ha=>by have:=hS1.lt a (.inr (.inl ha));omega) lct (zb5 bct (by omega))) ?_⟩;rintro e V2 ⟨rfl,hRn2,gn2⟩;have g2:V1.grownBy V2 (some M):=zd (zf dw2) gn2;have sg2:=g2.size;have fM2:zaY V2 M x3 q c [zO,zO,zO]:=by
     have h:=hRn2.cells;rw [<- hE2] at h;rw [hx3];exact h
    have ho2:=qa ho1 fM1 (by decide) g2;have f02:=(g2.block L (hlt f01) (by simp;omega)).trans f01;have fD2:=(g2.block D (hlt fD1) (by simp;omega)).trans fD1;have hb2:Bw w V2:=hb1.trans (zi g2 hb1.size (by omega));have hS2:=(hPs y hym).below hb2;obtain⟨x4,hx4⟩:∃ z:ExD,z={ x3 with rm:=zkM x.ev.length y.1.rmw x.rm }:=⟨_,rfl⟩;obtain⟨A3,Z3,hA3,hE3⟩:=zow x3 q c [zO,zO,zO];have hx3rm:x3.rm=x.rm:=(by rw [hx3];rw [hx2];rw [hx1]);have hR3:RelAt V2 M 246 87 A3 Z3 x.rm:=⟨hA3,by
     have h:=hE3 x3.rm;rw [hx3rm] at h;rw [<- h,<- hx3rm];exact fM2⟩
    have dw3:Bw V2 V2.drew:=(Gb _ _).drew;refine DrawE.ord [6] [0,1,2,3,4,5,6] (by kernel_rfl) ⟨.slice y.2.2.2.2.1 y.1.rmw.length y.2.2.2.2.2,zc (za (hdr fD2)) (i:=3) rfl,cmo (zn2 (f:=x.ev.length) (hR3.same (Y:=V2.drew) rfl) hw3 ((hS2.rm).below dw3) (fun a ha=>by have:=hS2.lt a (.inr (.inr ha));omega) lrm (zb5 brm (by omega))) ?_⟩;rintro e V3 ⟨rfl,hRn3,gn3⟩;have g3:V2.grownBy V3 (some M):=zd (zf dw3) gn3;have sg3:=g3.size;have fM3:zaY V3 M x4 q c [zO,zO,zO]:=by
     have h:=hRn3.cells;rw [<- hE3] at h;rw [hx4];exact h
    have ho3:=qa ho2 fM2 (by decide) g3;have f03:=(g3.block L (hlt f02) (by simp;omega)).trans f02;have fD3:=(g3.block D (hlt fD2) (by simp;omega)).trans fD2;have hb3:Bw w V3:=hb2.trans (zi g3 hb2.size (by omega));have hS3:=(hPs y hym).below hb3;have hx5:jT x k y.1={ x4 with regs:=fun i=>if i/8=k then y.1.regs (i%8) else x4.regs i }:=(by rw [hx4,hx3,hx2,hx1];rfl);obtain⟨A5,Z5,hA5,hE5⟩:=zix x4 q c [zO,zO,zO];have hM5:exC x4 q c++[zO,zO,zO]=A5++(seg 32 (fun i=>u8 (x4.regs i))++Z5):=hE5 x4.regs;have fM5:V3.heap[M]?=some (.cells (A5++(seg 32 (fun i=>u8 (x4.regs i))++Z5)).toArray 87 (0,0)):=(by rw [<- hM5];exact fM3);have hsub:((jH.enc y).drop 4).take 8=seg 8 (fun i=>u8 (y.1.regs i)):=JH (by rw [Qu,jH.len];decide);refine DrawE.ord [8] [0,1,2,3,4,5,6,7,8] (by kernel_rfl) ⟨seg 8 (fun i=>u8 (y.1.regs i)),zo _ _,by rw [<- hsub];have:=zG (n:=4) (m:=8) (za (hdr fD3));exact this,hlt (hdr fD3),k,rfl,by omega,?_⟩;refine jK k49 (hdr fM5) (o:=295+k*8) (v := .agg (seg 8 (fun i=>u8 (y.1.regs i))).toArray) (zo _ _) (by show 295+k*8+(seg 8 _).length<=(A5++(seg 32 _++Z5)).length;rw [<- hM5,lap,zC,zo];show _<=336;omega) (zaZ fun _=>rfl) fun S fS gS sS=>?_;obtain⟨x5,hx5e⟩:=nm (jT x k y.1);have fS:zaY S M x5 q c [zO,zO,zO]:=by
     refine fS.trans ?_;have e1:=zf6 (A:=A5) (Z:=Z5) (l:=seg 32 (fun i=>u8 (x4.regs i))) (r:=seg 8 (fun i=>u8 (y.1.regs i))) (o:=k*8) (m:=8) hA5 (by rw [zo];omega) (zo _ _);rw [zi6 (by omega)] at e1;rw [hx5e,hx5,hE5,<- e1];show some (Obj.cells ((A5++(seg 32 (fun i=>u8 (x4.regs i))++Z5)).take (295+k*8)++seg 8 (fun i=>u8 (y.1.regs i))++(A5++(seg 32 (fun i=>u8 (x4.regs i))++Z5)).drop (295+k*8+(seg 8 (fun i=>u8 (y.1.regs i))).length)).toArray _ _)=_;rw [zo]
    have dw4:Bw V3 V3.drew:=(Gb _ _).drew;have g4:V3.grownBy S (some M):=zd (zf dw4) gS;have hev5:x5.ev=x.ev++za1 k y.1.ev:=(by rw [hx5e];rfl);have hx1e:x1.ev=x5.ev:=(by rw [hx1,hev5]);have hlen5:x5.ev.length=x.ev.length+y.1.ev.length:=(by rw [hev5,lap];unfold za1;rw [QN]);refine nxI (by omega) ⟨(k+1,x5,q,c),(cvE rfl rfl),⟨hkl,by rw [hx5e];exact hacc,by rw [hlen5];exact hfold,?_,fun e he hk=>?_,fS,?_,(g4.block L (hlt f03) (by simp;omega)).trans f03,hb3.trans (zi g4 hb3.size (by omega))⟩,zdc (by omega)⟩
    ·rw [hx5e];exact⟨zd7 hw1 (zb5 bdt (by omega)),zd7 hw2 (zb5 bct (by omega)),zd7 hw3 (zb5 brm (by omega))⟩
    ·have he:e∈x5.ev:=he;rw [hev5] at he;rcases QS.1 he with he | he
     ·exact hloc e he hk
     ·unfold za1 at he;obtain⟨e',he',rfl⟩:=UJ.1 he;exact bloc e' he' hk
    ·show OwnS evE 60 w.heap.size S q c x5.ev;rw [hev5];exact qa ho3 fM3 (by decide) g4
  ·have hc:¬ (k:Int)<(Ps.length:Int):=dF hc;rw [JB (by rw [QN];omega)] at hacc hfold;have hacc:x=asR 0 (Ps.map (·.1)) x0:=hacc;have hfold:x.ev.length=N:=hfold;rw [<- hacc];exact⟨(q,c),(cvE rfl rfl),fM,ho,hfold,hloc,f0,hbY⟩
 clear fM ho f0 hbX;rintro⟨q,c⟩ X ⟨fM,ho,hxl,hloc,f0,hbX⟩;dsimp only at fM ho ⊢;obtain⟨AX,hAX⟩:=nm (asR 0 (Ps.map (·.1)) x0);rw [<- hAX] at fM ho hxl hloc;obtain⟨BX,hBX⟩:∃ BX:ExD,BX={ AX with po:=poR AX.ev }:=⟨_,rfl⟩;have hbase:jF init (Ps.map (·.1))=BX:=by
  rw [hBX,hAX,hx0,hN];rfl
 rw [hbase];refine⟨Unit,fun _=>⟨[(0,At0 bP),(1,.slice pp Ps.length cp),(4,At0 L),(9,At0 M),(10,At0 M)],[]⟩,fun _ X=>zaY X M BX q c [zO,zO,zO]/\OwnS evE 60 w.heap.size X q c BX.ev/\X.heap[L]?=some (.cells (zcF).toArray 87 (0,0))/\Bw w X,?_,?_⟩
 ·refine⟨_,zco fM,cmo (zcM ho.row (by omega)) ?_⟩;rintro e Y ⟨rfl,hbY⟩;have fMY:=zb hbY fM;obtain⟨A5,Z5,hA5,hE5⟩:=zox AX q c [zO,zO,zO];have hM5:exC AX q c++[zO,zO,zO]=A5++(zj AX.po++Z5):=hE5 AX.po;have fM5:Y.heap[M]?=some (.cells (A5++(zj AX.po++Z5)).toArray 87 (0,0)):=by rw [<- hM5];exact fMY
  refine jK k48 fM5 (o:=0+1) (v := .agg (zj (poR AX.ev)).toArray) (zh _) (by show 0+1+(zj _).length<=(A5++(zj AX.po++Z5)).length;rw [<- hM5,lap,zC,zh];decide) (qm _) fun S fS gS sS=>?_;have fS:zaY S M BX q c [zO,zO,zO]:=by
   refine fS.trans ?_;have e1:=zf6 (A:=A5) (Z:=Z5) (l:=zj AX.po) (r:=zj (poR AX.ev)) (o:=0) (m:=49) hA5 (by rw [zh];omega) (zh _);rw [hBX,hE5];have e2:(zj AX.po).take 0++zj (poR AX.ev)++(zj AX.po).drop (0+49)=zj (poR AX.ev):=by
    rw [Up,QU,JB (by rw [zh];omega),QK]
   rw [e2] at e1;rw [<- e1];show some (Obj.cells ((A5++(zj AX.po++Z5)).take (0+1)++zj (poR AX.ev)++(A5++(zj AX.po++Z5)).drop (0+1+(zj (poR AX.ev)).length)).toArray _ _)=_;rw [zh]
  have hLX:=hlt f0;have hbwY:=zst hbX hbY;exact⟨(),(cvE rfl rfl),fS,by rw [hBX];exact qa (ho.below hbY) fMY (by decide) gS,(gS.block L (hlt (zb hbY f0)) (by simp;omega)).trans (zb hbY f0),hbwY.trans (zi gS hbwY.size (by omega))⟩
 have hBe:BX.ev=AX.ev:=by rw [hBX]
 clear fM ho f0 hbX;rintro _ X ⟨fM,ho,f0,hbX⟩;refine⟨List Value,fun _=>⟨[(0,At0 bP),(1,.slice pp Ps.length cp),(4,At0 L),(9,At0 M),(10,At0 M)],[]⟩,fun vs X=>X.heap[M]?=some (.cells vs.toArray 87 (0,0))/\zsF w.heap.size X vs (jU BX init.length)/\X.heap[L]?=some (.cells (zcF).toArray 87 (0,0))/\Bw w X,?_,?_⟩
 ·refine⟨_,ldP hbX h1,?_⟩;have hqM:∀ a,q=some a->a.block≠M:=fun a ha e=>by
   obtain⟨_,_,cur,h'⟩:=zq ho ha;rw [e,fM] at h';simp at h'
  refine cmo (zng fM ho.row hqM (by rw [hBe];omega) (by omega) (by rw [hBe];exact hloc)) ?_;rintro e Y ⟨rfl,⟨p1,p2,p3,c1,c2,c3,xs,ys,fY,h1',h2',h3',h4',h5',h6',h7'⟩,gY⟩;have hwX:=hbX.size;refine⟨_,(cvE rfl rfl),fY,⟨q,p1,p2,p3,c,c1,c2,c3,xs,ys,rfl,qa ho fM (by decide) gY,h1'.lower hwX,h2',h3'.lower hwX,fun y hy=>(h4' y hy).lower hwX,h5',h6'.lower hwX,fun y hy=>(h7' y hy).lower hwX⟩,(gY.block L (hlt f0) (by simp;omega)).trans f0,hbX.trans (zi gY hbX.size (by omega))⟩
 clear fM ho f0 hbX;rintro vs X ⟨fM,hv,f0,hbX⟩;have hvl:vs.length=336:=by
  obtain⟨q,p1,p2,p3,c,c1,c2,c3,xs,ys,e,_⟩:=hv;rw [e,lap,zC];rfl
 have hv1:vs.all Value.oneCell'=true:=by
  obtain⟨q,p1,p2,p3,c,c1,c2,c3,xs,ys,e,_⟩:=hv;rw [e,QJ,zbf];rfl
 refine⟨vs,hvl,za fM,hlt fM,zI (v := .agg vs.toArray) k87 f0 hvl jz hv1 ⟨vs,hvl,za (zz f0),⟨vs,rfl,?_⟩,zA hbX (by omega) _⟩⟩;obtain⟨q,p1,p2,p3,c,c1,c2,c3,xs,ys,e,k1,k2,k3,k4,k5,k6,k7,k8⟩:=hv;have kp:∀ {α:Type} {E:Enc α} {T cc:Nat} {r:OA} {ll:List α},T≠87->OwnS E T w.heap.size X r cc ll->OwnS E T w.heap.size (X.setRow L vs.toArray) r cc ll:=fun {α E T cc r ll} hT h=>qa h f0 hT (jt X L _);exact⟨q,p1,p2,p3,c,c1,c2,c3,xs,ys,e,kp (by decide) k1,kp (by decide) k2,k3,kp (by decide) k4,fun y hy=>kp (by decide) (k5 y hy),k6,kp (by decide) k7,fun y hy=>kp (by decide) (k8 y hy)⟩
end
def Rds (ev:Nat->Ev) (n s:Nat):Prop:=∀ b,s.testBit b=true->b<n/\(ev b).k=1
theorem zfY (ev:Nat->Ev) (n:Nat):Rds ev n 0:=fun b h=>by simp at h
theorem Rds.or {ev:Nat->Ev} {n s t:Nat} (h:Rds ev n s) (k:Rds ev n t):Rds ev n (s|||t):=fun b hb=>by
 rw [Ur,QH] at hb;exact hb.elim (h b) (k b)
theorem Rds.mono {ev:Nat->Ev} {n m s:Nat} (h:Rds ev n s) (hm:n<=m):Rds ev m s:=fun b hb=>⟨nL (h b hb).1 hm,(h b hb).2⟩
theorem zfB {ev:Nat->Ev} {n b:Nat} (hb:b<n) (hk:(ev b).k=1):Rds ev n (2^b):=fun c hc=>by
 rw [Kq] at hc;have e:b=c:=dT hc;rw [<- e];exact⟨hb,hk⟩
theorem Rds.upd {ev:Nat->Ev} {n m s:Nat} {e:Ev} (h:Rds ev n s) (hm:n<=m):Rds (upd ev m e) n s:=fun b hb=>by
 obtain⟨h1,h2⟩:=h b hb;rw [qr _ _ (by omega)];exact⟨h1,h2⟩
def zsa (k i:Nat) (e:Ev):Prop:=e.th=0/\e.p=UInt8.ofNat i/\(((e.k=1\/e.k=2)/\e.l.toNat<k)\/(e.k=3/\e.l=0/\e.v=0))
structure RunW (k:Nat) (R:RunD):Prop where
 ev:∀ i,i<R.many->zsa k i (R.ev i)
 deps:∀ j,Rds R.ev R.many (R.deps j)
 ctl:Rds R.ev R.many R.ctl
 data:∀ i,i<R.many->Rds R.ev i (R.data i)/\(R.data i≠0->(R.ev i).k=2)
 ctrl:∀ i,i<R.many->Rds R.ev i (R.ctrl i)
 att:∀ i,i<R.many->R.att i=0\/∃ b,i=b+1/\R.att i=2^b/\(R.ev b).k=1/\(R.ev i).k=2/\(R.ev b).l=(R.ev i).l
 fresh:∀ i,R.many<=i->R.att i=0
theorem zrb (k:Nat):RunW k zh7 where
 ev:=fun i h=>Gq h (Ub i)
 deps:=fun j=>zfY _ _
 ctl:=zfY _ _
 data:=fun i h=>Gq h (Ub i)
 ctrl:=fun i h=>Gq h (Ub i)
 att:=fun i h=>Gq h (Ub i)
 fresh:=fun i _=>rfl
section
variable {k:Nat} {R:RunD} {x:InsD} {v:UInt8}
theorem RunW.val (h:RunW k R) (r:Bool) (n:UInt8):Rds R.ev R.many (qB r n R).2:=by
 unfold qB
 split
 ·exact h.deps _
 ·exact zfY _ _
theorem RunW.emit (h:RunW k R) {kd l v m:UInt8} {d:Nat} (he:((kd=1\/kd=2)/\l.toNat<k)\/(kd=3/\l=0/\v=0)) (hd:Rds R.ev R.many d) (hk:d≠0->kd=2):RunW k (zaL R kd l v m d):=by
 have old:∀ {i:Nat},i<R.many->upd R.ev R.many ⟨0,kd,l,v,m,UInt8.ofNat R.pc,UInt8.ofNat R.many⟩ i=R.ev i:=fun {i} hi=>qr _ _ (by omega);have new:upd R.ev R.many ⟨0,kd,l,v,m,UInt8.ofNat R.pc,UInt8.ofNat R.many⟩ R.many=⟨0,kd,l,v,m,UInt8.ofNat R.pc,UInt8.ofNat R.many⟩:=zK _ _ _;have spl:∀ {i:Nat},i<R.many+1->i=R.many\/i<R.many:=fun {i} hi=>by omega
 refine⟨fun i hi=>?_,fun j=>(((h.deps j).upd (UW _)).mono (Nat.le_succ _)),(h.ctl.upd (UW _)).mono (Nat.le_succ _),fun i hi=>?_,fun i hi=>?_,fun i hi=>?_,fun i hi=>h.fresh i (by have:R.many+1<=i:=hi;omega)⟩
 ·show zsa k i (upd R.ev R.many _ i);rcases spl hi with e | hi
  ·rw [e,new];exact⟨rfl,rfl,he⟩
  ·rw [old hi];exact h.ev i hi
 ·show Rds (upd R.ev R.many _) i (upd R.data R.many d i)/\(upd R.data R.many d i≠0->(upd R.ev R.many _ i).k=2);rcases spl hi with e | hi
  ·rw [e,zK,new];exact⟨hd.upd (UW _),hk⟩
  ·rw [qr _ _ (by omega),old hi];exact⟨(h.data i hi).1.upd (Nat.le_of_lt hi),(h.data i hi).2⟩
 ·show Rds (upd R.ev R.many _) i (upd R.ctrl R.many R.ctl i);rcases spl hi with e | hi
  ·rw [e,zK];exact h.ctl.upd (UW _)
  ·rw [qr _ _ (by omega)];exact (h.ctrl i hi).upd (Nat.le_of_lt hi)
 ·show R.att i=0\/∃ b,i=b+1/\R.att i=2^b/\(upd R.ev R.many _ b).k=1/\(upd R.ev R.many _ i).k=2/\(upd R.ev R.many _ b).l=(upd R.ev R.many _ i).l;rcases spl hi with e | hi
  ·exact .inl (h.fresh i (by omega))
  ·rcases h.att i hi with h0 | ⟨b,hb,h1,h2,h3,h4⟩
   ·exact .inl h0
   ·refine .inr ⟨b,hb,h1,?_⟩;rw [old hi,old (by omega)];exact⟨h2,h3,h4⟩
theorem RunW.set (h:RunW k R) {d v:UInt8} {s:Nat} (hs:Rds R.ev R.many s):RunW k (zh2 R d v s):=by
 refine⟨h.ev,fun j=>?_,h.ctl,h.data,h.ctrl,h.att,h.fresh⟩;show Rds R.ev R.many (upd R.deps d.toNat s j);by_cases e:j=d.toNat
 ·rw [e,zK];exact hs
 ·rw [qr _ _ e];exact h.deps j
structure ExchW (k:Nat) (R S:RunD) (x:InsD):Prop where
 w:RunW k S
 m:S.many=R.many+2
 k1:(S.ev R.many).k=1
 k2:(S.ev (R.many+1)).k=2
 a:S.att (R.many+1)=2^R.many
theorem RunW.exch (h:RunW k R) (hl:x.loc.toNat<k) {o v:UInt8} {d:Nat} (hd:Rds R.ev R.many d):ExchW k R (zcC R x o v d) x:=by
 have h1:=h.emit (kd:=1) (l:=x.loc) (v:=o) (m:=3) (d:=0) (.inl ⟨.inl rfl,hl⟩) (zfY _ _) (fun e=>Gq rfl e);have hd1:Rds (zaL R 1 x.loc o 3 0).ev (R.many+1) d:=(hd.upd (UW _)).mono (Nat.le_succ _);have h2:=h1.emit (kd:=2) (l:=x.loc) (v:=v) (m:=3) (d:=d) (.inl ⟨.inr rfl,hl⟩) hd1 (fun _=>rfl);obtain⟨S,hS⟩:=nm (zaL (zaL R 1 x.loc o 3 0) 2 x.loc v 3 d);rw [<- hS] at h2;have sm:S.many=R.many+2:=by rw [hS];rfl
 have e1:S.ev R.many=⟨0,1,x.loc,o,3,UInt8.ofNat R.pc,UInt8.ofNat R.many⟩:=by
  rw [hS];show upd (upd R.ev R.many _) (R.many+1) _ R.many=_;rw [qr _ _ (by omega),zK]
 have e2:S.ev (R.many+1)=⟨0,2,x.loc,v,3,UInt8.ofNat R.pc,UInt8.ofNat (R.many+1)⟩:=by
  rw [hS];show upd (upd R.ev R.many _) (R.many+1) _ (R.many+1)=_;rw [zK];rfl
 have h3:RunW k { S with att:=upd S.att (R.many+1) (2^R.many) }:=by
  refine⟨h2.ev,h2.deps,h2.ctl,h2.data,h2.ctrl,fun i hi=>?_,fun i hi=>?_⟩
  ·show upd S.att (R.many+1) (2^R.many) i=0\/∃ b,i=b+1/\upd S.att (R.many+1) (2^R.many) i=2^b/\(S.ev b).k=1/\(S.ev i).k=2/\(S.ev b).l=(S.ev i).l;by_cases e:i=R.many+1
   ·rw [e,zK];exact .inr ⟨R.many,rfl,rfl,by rw [e1],by rw [e2],by rw [e1,e2]⟩
   ·rw [qr _ _ e];exact h2.att i hi
  ·show upd S.att (R.many+1) (2^R.many) i=0;have hi:S.many<=i:=hi;rw [qr _ _ (by omega)];exact h2.fresh i hi
 have h4:=RunW.set (d:=x.dst) (v:=o) h3 (zfB (b:=R.many) (by show R.many<S.many;omega) (by show (S.ev R.many).k=1;rw [e1]));have e5:zcC R x o v d=zh2 { S with att:=upd S.att (R.many+1) (2^R.many) } x.dst o (2^R.many):=by rw [hS];rfl
 rw [e5];exact⟨h4,sm,by show (S.ev R.many).k=1;rw [e1],by show (S.ev (R.many+1)).k=2;rw [e2],zK _ _ _⟩
theorem ExchW.rd {S:RunD} (h:ExchW k R S x):Rds S.ev (R.many+1) (2^R.many):=zfB (QB _) h.k1
theorem RunW.fetch (h:RunW k R) (hl:x.loc.toNat<k):RunW k (zeW R x v):=by
 have h1:=RunW.exch (o:=v) (v:=v+(qB x.ar x.an R).1) (d:=(qB x.ar x.an R).2) h hl (h.val x.ar x.an);obtain⟨S,hS⟩:=nm (zcC R x v (v+(qB x.ar x.an R).1) (qB x.ar x.an R).2);rw [<- hS] at h1;have e:zeW R x v={ S with data:=upd S.data (R.many+1) (S.data (R.many+1)|||S.att (R.many+1)) }:=by rw [hS];rfl
 rw [e];have hw:=h1.w;have hm:=h1.m;refine⟨hw.ev,hw.deps,hw.ctl,fun i hi=>?_,hw.ctrl,hw.att,hw.fresh⟩;show Rds S.ev i (upd S.data (R.many+1) _ i)/\(upd S.data (R.many+1) _ i≠0->(S.ev i).k=2);by_cases e:i=R.many+1
 ·rw [e,zK,h1.a];exact⟨(hw.data _ (by omega)).1.or h1.rd,fun _=>h1.k2⟩
 ·rw [qr _ _ e];exact hw.data i hi
theorem RunW.cas (h:RunW k R) (hl:x.loc.toNat<k):RunW k (zdr R x v):=by
 by_cases hv:v=(qB x.ar x.an R).1
 ·have h1:=RunW.exch (o:=v) (v:=(qB x.br x.bn R).1) (d:=(qB x.br x.bn R).2) h hl (h.val x.br x.bn);obtain⟨S,hS⟩:=nm (zcC R x v (qB x.br x.bn R).1 (qB x.br x.bn R).2);rw [<- hS] at h1;have hw:=h1.w;have hm:=h1.m;have ha:Rds S.ev (R.many+1) (qB x.ar x.an R).2:=by
   have h2:Rds R.ev R.many (qB x.ar x.an R).2:=h.val _ _;have e1:∀ b,b<R.many->S.ev b=R.ev b:=fun b hb=>by
    rw [hS];show upd (upd R.ev R.many _) (R.many+1) _ b=_;rw [qr _ _ (by omega),qr _ _ (by omega)]
   intro b hb;obtain⟨c1,c2⟩:=h2 b hb;rw [e1 b c1];exact⟨by omega,c2⟩
  have e:zdr R x v={ S with ctrl:=upd S.ctrl (R.many+1) (S.ctrl (R.many+1)|||(S.att (R.many+1)|||(qB x.ar x.an R).2)) }:=by
   unfold zdr;rw [Gp hv,hS]
  rw [e];clear e;refine⟨hw.ev,hw.deps,hw.ctl,hw.data,fun i hi=>?_,hw.att,hw.fresh⟩;show Rds S.ev i (upd S.ctrl (R.many+1) _ i);by_cases e:i=R.many+1
  ·rw [e,zK,h1.a];exact (hw.ctrl _ (by omega)).or (h1.rd.or ha)
  ·rw [qr _ _ e];exact hw.ctrl i hi
 ·have e:zdr R x v=zh2 (zaL R 1 x.loc v 3 0) x.dst v (2^R.many):=by unfold zdr;rw [Gn hv]
  rw [e];have h1:=h.emit (kd:=1) (l:=x.loc) (v:=v) (m:=3) (d:=0) (.inl ⟨.inl rfl,hl⟩) (zfY _ _) (fun e=>Gq rfl e);refine RunW.set h1 (zfB (b:=R.many) (QB _) ?_);show (upd R.ev R.many _ R.many).k=1;rw [zK]
theorem RunW.pc (h:RunW k R) (n:Nat):RunW k { R with pc:=n }:=⟨h.ev,h.deps,h.ctl,h.data,h.ctrl,h.att,h.fresh⟩
theorem RunW.eff (h:RunW k R) (hx:ExG x) (hl:x.op=1\/x.op=2\/x.op=4\/x.op=5\/x.op=6->x.loc.toNat<k):RunW k (zep R x v):=by
 rcases hx with ⟨e,-⟩ | ⟨e,-⟩ | ⟨e,-⟩ | ⟨e,-⟩ | ⟨e,-⟩ | ⟨e,-⟩ | e | ⟨e,-⟩
 ·rw [qh.1 e];have h1:=h.emit (kd:=1) (l:=x.loc) (v:=v) (m:=x.mode) (d:=0) (.inl ⟨.inl rfl,hl (.inl e)⟩) (zfY _ _) (fun e=>Gq rfl e);refine RunW.set h1 (zfB (b:=R.many) (QB _) ?_);show (upd R.ev R.many _ R.many).k=1;rw [zK]
 ·rw [qh.2.1 e];exact h.emit (.inl ⟨.inr rfl,hl (.inr (.inl e))⟩) (h.val _ _) (fun _=>rfl)
 ·rw [qh.2.2.1 e];exact h.set ((h.val _ _).or (h.val _ _))
 ·rw [qh.2.2.2.1 e];exact (h.exch (hl (.inr (.inr (.inl e)))) (h.val _ _)).w
 ·rw [qh.2.2.2.2.1 e];exact h.fetch (hl (.inr (.inr (.inr (.inl e)))))
 ·rw [qh.2.2.2.2.2.1 e];exact h.cas (hl (.inr (.inr (.inr (.inr e)))))
 ·rw [qh.2.2.2.2.2.2.1 e];exact h.emit (.inr ⟨rfl,rfl,rfl⟩) (zfY _ _) (fun e=>Gq rfl e)
 ·rw [qh.2.2.2.2.2.2.2 e];have h1:RunW k { R with ctl:=R.ctl|||((qB x.ar x.an R).2|||(qB x.br x.bn R).2) }:=⟨h.ev,h.deps,h.ctl.or ((h.val _ _).or (h.val _ _)),h.data,h.ctrl,h.att,h.fresh⟩;unfold zbD;dsimp only
  split
  ·exact h1.pc _
  ·exact h1
theorem RunW.exec (h:RunW k R) (hx:ExG x) (hl:x.op=1\/x.op=2\/x.op=4\/x.op=5\/x.op=6->x.loc.toNat<k):RunW k (qi R x v):=RunW.pc (h.eff hx hl) _
end
def ThW (k:Nat) (l:List InsD):Prop:=∀ x∈l,ExG x/\(x.op=1\/x.op=2\/x.op=4\/x.op=5\/x.op=6->x.loc.toNat<k)
theorem zq9 {l:List InsD} {k:Nat} (h:z8 l k=true):ThW k l:=fun x hx=>by
 unfold z8 at h;rw [bAT,dE,Qk] at h;obtain⟨i,hi,rfl⟩:=Kj hx;have:=h.2 i (Uo.2 hi);rw [gE hi] at this;exact⟨(ziv this).1,(ziv this).2.2⟩
theorem RunW.go {k:Nat} {l:List InsD} (ht:ThW k l):∀ (n:Nat) (S:RunD),RunW k S->RunW k (goR l n S)
 | 0,S,h=>h
 | n+1,S,h=>by
  show RunW k (match l[S.pc]? with | none=>S | some x=>if zbT x then S else goR l n (qi S x 0))
  cases hg:l[S.pc]? with
  | none=>exact h
  | some x =>
   dsimp only
   split
   ·exact h
   ·obtain⟨a,b⟩:=ht x (JZ hg);exact RunW.go ht n _ (h.exec a b)
theorem RunW.spread {k:Nat} {l:List InsD} (ht:ThW k l) (dom:List UInt8):∀ (n:Nat) (S:RunD),RunW k S->∀ R∈zY l dom n S,RunW k R
 | 0,S,h,R,hR=>by
  have hR:R∈[goR l l.length S]:=hR;rw [KB] at hR;rw [hR];exact RunW.go ht _ _ h
 | n+1,S,h,R,hR=>by
  have hT:=RunW.go ht l.length S h;have hR:R∈(match l[(goR l l.length S).pc]? with | none=>[goR l l.length S] | some x=>dom.flatMap fun v=>zY l dom n (qi (goR l l.length S) x v)):=hR
  cases hg:l[(goR l l.length S).pc]? with
  | none =>
   rw [hg] at hR;have hR:=KB.1 hR;rw [hR];exact hT
  | some x =>
   rw [hg] at hR;obtain⟨v,-,hv⟩:=List.mem_flatMap.1 hR;obtain⟨a,b⟩:=ht x (JZ hg);exact RunW.spread ht dom n _ (hT.exec a b) R hv
theorem zrI {l:List InsD} {k:Nat} (h:z8 l k=true) (dom:List UInt8):∀ R∈qb l dom,RunW k R/\R.many<=24:=fun R hR =>
 ⟨RunW.spread (zq9 h) dom _ _ (zrb k) R hR,(zfJ (zku h) dom R hR).1⟩
structure PathW (k:Nat) (P:PathD):Prop where
 n:P.ev.length<=24
 ev:∀ i e,P.ev[i]?=some e->zsa k i e
 dt:∀ p∈P.data,∃ a b,P.ev[p.1]?=some a/\P.ev[p.2]?=some b/\p.1<p.2/\a.k=1/\b.k=2
 ct:∀ p∈P.ctrl,∃ a b,P.ev[p.1]?=some a/\P.ev[p.2]?=some b/\p.1<p.2/\a.k=1
 rm:∀ p∈P.rmw,∃ a b,P.ev[p.1]?=some a/\P.ev[p.2]?=some b/\p.2=p.1+1/\a.k=1/\b.k=2/\a.l=b.l
 dtl:P.data.length<=100000
 ctl:P.ctrl.length<=100000
 rml:P.rmw.length<=100000
theorem zdH {f:Nat->Nat} {n:Nat} {p:Nat×Nat} (h:p∈zcN f n):p.2<n/\(f p.2).testBit p.1=true:=by
 unfold zcN at h;obtain⟨i,hi,h⟩:=List.mem_flatMap.1 h;obtain⟨a,ha,rfl⟩:=UJ.1 h;exact⟨Uo.1 hi,(zah.1 ha).2⟩
theorem zeQ (f:Nat->Nat) {n:Nat} (h:n<=24):(zcN f n).length<=100000:=by
 rw [<- zc7];have:=zeP ((List.range n).map f) 0;rw [QN,KW] at this;omega
theorem zcq {R:RunD} {i:Nat} (h:i<R.many):(zaa R).ev[i]?=some (R.ev i):=by
 show ((List.range R.many).map R.ev)[i]?=_;rw [KV,Ki h];rfl
theorem zrm {k:Nat} {R:RunD} (h:RunW k R) (hm:R.many<=24):PathW k (zaa R):=by
 have hl:(zaa R).ev.length=R.many:=by show ((List.range R.many).map R.ev).length=_;rw [QN,KW]
 refine⟨by omega,fun i e he=>?_,fun p hp=>?_,fun p hp=>?_,fun p hp=>?_,zeQ _ hm,zeQ _ hm,zeQ _ hm⟩
 ·have hi:i<R.many:=by rw [<- hl];exact (Js.1 he).1
  rw [zcq hi] at he;rw [<- Uf he];exact h.ev i hi
 ·obtain⟨h1,h2⟩:=zdH hp;obtain⟨h3,h4⟩:=h.data _ h1;obtain⟨h5,h6⟩:=h3 _ h2;exact⟨_,_,zcq (by omega),zcq h1,h5,h6,h4 (fun e=>by rw [e] at h2;simp at h2)⟩
 ·obtain⟨h1,h2⟩:=zdH hp;obtain⟨h5,h6⟩:=h.ctrl _ h1 _ h2;exact⟨_,_,zcq (by omega),zcq h1,h5,h6⟩
 ·obtain⟨h1,h2⟩:=zdH hp;rcases h.att _ h1 with e | ⟨b,e1,e2,e3,e4,e5⟩
  ·rw [e] at h2;simp at h2
  ·rw [e2,Kq] at h2;have e:b=p.1:=dT h2;subst e;exact⟨_,_,zcq (by omega),zcq h1,e1,e3,e4,e5⟩
theorem PathW.b {k:Nat} {P:PathD} (h:PathW k P):PathB k P:=by
 have lt:∀ {i:Nat} {e:Ev},P.ev[i]?=some e->i<P.ev.length:=fun {i e} he=>(Js.1 he).1;refine⟨h.n,fun e he hk=>?_,fun p hp=>?_,fun p hp=>?_,fun p hp=>?_,h.dtl,h.ctl,h.rml⟩
 ·obtain⟨i,hi,rfl⟩:=Kj he;rcases (h.ev i _ (gE hi)).2.2 with h1 | ⟨h1,_⟩
  ·exact h1.2
  ·rw [h1] at hk;rcases hk with hk | hk <;> exact Gq hk (by decide)
 ·obtain⟨a,b,h1,h2,_⟩:=h.dt p hp;exact⟨lt h1,lt h2⟩
 ·obtain⟨a,b,h1,h2,_⟩:=h.ct p hp;exact⟨lt h1,lt h2⟩
 ·obtain⟨a,b,h1,h2,_⟩:=h.rm p hp;exact⟨lt h1,lt h2⟩
end Go.Proofs.YtpalcnbhkigagaaGreatDoor
namespace Go.Sei
theorem zl9:∀ (rs:List Nat) (j:Nat),(∀ n∈rs,n≠0)->∀ (i n d:Nat),rs[i]?=some n->(j5 rs j)[i]?=some d->d<n
 | [],_,_,_,_,_,h,_=>by simp at h
 | m::rs,j,h0,0,n,d,h,hd=>by
  have h:m=n:=by simpa using h
  have hd:j%m=d:=by simpa [j5] using hd
  subst h;subst hd;exact Gf _ (KH (h0 m (by simp)))
 | m::rs,j,h0,i+1,n,d,h,hd=>zl9 rs (j/m) (fun n hn=>h0 n (by simp [hn])) i n d (by simpa using h) (by simpa [j5] using hd)
theorem zaE {sizes ds:List Nat} (h:ds∈z7 sizes):ds.length=sizes.length/\∀ (i n d:Nat),sizes[i]?=some n->ds[i]?=some d->d<n:=by
 unfold z7 at h;obtain⟨j,hj,rfl⟩:=UJ.1 h;have hj:=Uo.1 hj;have h0:∀ n∈sizes.reverse,n≠0:=fun n hn e=>by
  subst e;rw [zdC hn] at hj;omega
 have hl:(j5 sizes.reverse j).length=sizes.length:=by rw [zeq,Kk]
 refine⟨by rw [Kk,hl],fun i n d hn hd=>?_⟩;have hi:i<sizes.length:=(Js.1 hn).1;have e1:=JL (l:=sizes.reverse) (i:=i) (by simpa using hi);rw [Kb,hn] at e1;have e2:=JL (l:=j5 sizes.reverse j) (i:=i) (by omega);rw [hd,hl] at e2;rw [Kk] at e1;exact zl9 _ _ h0 _ n d e1.symm e2.symm
theorem zjf:∀ (rs:List (Nat×List Nat)) (r:Nat) (s:List Nat) (ds:List Nat) (f:Nat->Nat),rfF (rs++[(r,s)]) ds f=upd (rfF rs ds f) (s.getD (ds.getD rs.length 0) 0) (rfF rs ds f (s.getD (ds.getD rs.length 0) 0)|||2^r)
 | [],r,s,ds,f=>by
  have:ds.getD 0 0=ds.headD 0:=by cases ds <;> rfl
  show upd f (s.getD (ds.headD 0) 0) _=_;rw [<- this];rfl
 | (r',s')::rs,r,s,ds,f=>by
  have e:ds.getD (rs.length+1) 0=ds.tail.getD rs.length 0:=by
   cases ds with
   | nil=>simp
   | cons a ds=>simp
  show rfF (rs++[(r,s)]) ds.tail _=_;rw [zjf rs r s ds.tail];show _=upd (rfF rs ds.tail _) (s.getD (ds.getD (rs.length+1) 0) 0) (rfF rs ds.tail _ (s.getD (ds.getD (rs.length+1) 0) 0)|||2^r);rw [e]
abbrev zdu (ev:List Ev) (rk:List Nat):UInt8:=(ev.getD (rk.getLastD 0) ev0).v
theorem zj2 (ev:List Ev):∀ (Rs:List (List (List Nat))) (R:List (List Nat)) (l:Nat) (ds:List Nat) (p:RelD×(Nat->UInt8)),
  coG ev l (Rs++[R]) ds p=(j7 (R.getD (ds.getD Rs.length 0) []) (coG ev l Rs ds p).1,upd (coG ev l Rs ds p).2 (l+Rs.length) (zdu ev (R.getD (ds.getD Rs.length 0) [])))
 | [],R,l,ds,p=>by
  have:ds.getD 0 0=ds.headD 0:=by cases ds <;> rfl
  show (j7 (R.getD (ds.headD 0) []) p.1,upd p.2 l _)=_;rw [<- this];rfl
 | R'::Rs,R,l,ds,p=>by
  have e:ds.getD (Rs.length+1) 0=ds.tail.getD Rs.length 0:=by
   cases ds with
   | nil=>simp
   | cons a ds=>simp
  show coG ev (l+1) (Rs++[R]) ds.tail _=_;rw [zj2 ev Rs R (l+1) ds.tail];show _=(j7 (R.getD (ds.getD (Rs.length+1) 0) []) _,upd _ (l+(Rs.length+1)) (zdu ev (R.getD (ds.getD (Rs.length+1) 0) [])));rw [e,show l+1+Rs.length=l+(Rs.length+1) by omega];rfl
def ziV (r:RelD):Bool:=(List.range 48).all fun i=>decide (r.to i<2^64)
structure MixB (m:MixD):Prop where
 ev:m.base.ev.length<=48
 rl:m.rs.length<=48
 wl:m.wr.length<=6
 rf:∀ i,i<48->m.base.rf.to i<2^64
 co:∀ i,i<48->m.base.co.to i<2^64
 rs:∀ r∈m.rs,r.1<48/\r.2.length<=1000/\∀ s∈r.2,s<48
 wr:∀ w∈m.wr,w.length<=48/\(zF w).length<=10000/\∀ k∈zF w,k≠[]/\k.length<=48/\∀ a∈k,a<m.base.ev.length
theorem zfK (m:MixD) (ds:List Nat):(zT m ds).ev=m.base.ev:=rfl
def qM (a b : RelD) : Bool := decide (a.n = b.n) && (List.range 48).all fun i => decide (a.to i = b.to i)
def jb (ev : List Ev) : Nat := (ev.takeWhile fun e => decide (e.th = -1)).length
def zjT (locs : Nat) : Nat → List Ev → Int → Nat → Bool
  | _, [], _, _ => true
  | i, e :: es, t, n =>
    if i < locs then (if e = ⟨-1, 2, UInt8.ofNat i, e.v, 0, 0, 0⟩ then zjT locs (i + 1) es t n else false)
    else if e.th < t ∨ 4 ≤ e.th then false
    else
      let t' := if t < e.th then e.th else t
      let n' := if t < e.th then 0 else n
      if e.p.toNat = n' then
        (if e.k = 1 ∨ e.k = 2 then (if e.l.toNat < locs then zjT locs (i + 1) es t' (n' + 1) else false)
         else if e.k = 3 then (if e.l = 0 ∧ e.v = 0 then zjT locs (i + 1) es t' (n' + 1) else false)
         else false)
      else false
def jD (ev : List Ev) (locs : Nat) : Bool := zjT locs 0 ev 0 0
def evA (x : ExD) (i : Nat) : Ev := x.ev.getD i ev0
def zbG (x : ExD) (s : Nat) (e : Ev) : Bool :=
  if e.k = 1 then (if s = 0 then false else
    (if s = 2 ^ ctz s then decide ((evA x (ctz s)).k = 2) && (decide ((evA x (ctz s)).l = e.l) && decide ((evA x (ctz s)).v = e.v)) else false))
  else decide (s = 0)
def zaf (x : ExD) : Bool := (List.range x.ev.length).all fun i => zbG x ((zN x.rf).to i) (evA x i)
def ja (key : Nat → Nat) : List Nat → Nat → List Nat
  | [], x => [x]
  | y :: r, x => if key y < key x then y :: ja key r x else x :: y :: r
def zcJ (key : Nat → Nat) (l : List Nat) : List Nat := (l.foldl (fun acc x => ja key acc x) []).reverse
def zbv (s : Nat) : Nat := (els s).length
def z9 (x : ExD) (l : Nat) : List Nat := (List.range x.ev.length).filter fun i => decide ((evA x i).k = 2) && decide ((evA x i).l.toNat = l)
def zQ (x : ExD) (l : Nat) : List Nat := zcJ (fun i => zbv (x.co.to i)) (z9 x l)
def zg3 (x : ExD) : Nat → Nat → RelD × (Nat → UInt8) → Option (RelD × (Nat → UInt8))
  | 0, _, p => some p
  | n + 1, l, p => if (zQ x l).headD 48 = l then zg3 x n (l + 1) (j7 (zQ x l) p.1, upd p.2 l (zdu x.ev (zQ x l))) else none
def zai (x : ExD) (locs : Nat) : Bool := match zg3 x locs 0 (⟨x.ev.length, fun _ => 0⟩, fun _ => 0) with
  | none => false
  | some p => qM p.1 x.co && (List.range 6).all fun l => decide (p.2 l = x.mem l)
def znt (x : ExD) : Nat := (List.range x.ev.length).foldl (fun s i => if (evA x i).k = 2 then s ||| 2 ^ i else s) 0
def zgL (x : ExD) (W : Nat) : Nat → List Ev → Nat → Bool
  | _, [], _ => true
  | i, e :: es, h =>
    let d := x.dt.to i
    let c := x.ct.to i
    let r := x.rm.to i
    if d ||| c ||| r = 0 then zgL x W (i + 1) es h
    else if e.k = 1 ∧ zaA (d ||| r) W = 0 ∧ zaA (d ||| c ||| r) (x.po.to i) = 0 then
      (if r = 0 then zgL x W (i + 1) es h
       else if r = 2 ^ ctz r ∧ h.testBit (ctz r) = false ∧ (evA x (ctz r)).l = e.l then zgL x W (i + 1) es (h ||| r) else false)
    else false
def za5 (x : ExD) : Bool := zgL x (znt x) 0 x.ev 0
def zb3 (x : ExD) : Bool := [x.po, x.rf, x.co, x.dt, x.ct, x.rm].all fun r => decide (r.n = x.ev.length) && okR r
def zbr (x : ExD) : Bool :=
  decide (x.ev.length ≤ 48) && (decide (1 ≤ jb x.ev) && (decide (jb x.ev ≤ 6) && (jD x.ev (jb x.ev) && (zb3 x && (qM x.po (poR x.ev) && (zaf x && (zai x (jb x.ev) && za5 x)))))))
def zet (f:Nat->Bool) (n:Nat):Nat:=((List.range n).filter f).length
theorem zkX (e:Ev) (es:List Ev):jb (e::es)=if e.th = -1 then jb es+1 else 0:=by
 unfold jb;rw [Ko];by_cases h:e.th = -1
 ·rw [Gp (Us h),Gp h,Qt]
 ·rw [Gn (by simp [h]),Gn h];rfl
section
variable {L:List Ev} {locs:Nat}
theorem zcc (f:Nat->Bool) (n:Nat):zet f (n+1)=zet f n+if f n=true then 1 else 0:=by
 unfold zet;rw [QW,Kw,lap,Qo,List.filter_nil]
 split <;> rfl
theorem zoO {f:Nat->Bool} {n:Nat} (h:∀ k,k<n->f k=false):zet f n=0:=by
 unfold zet;rw [List.length_eq_zero_iff,JD];intro k hk;rw [h k (Uo.1 hk)];decide
end
theorem zhD (ev:List Ev) (a k:Nat):(ev.drop a).getD k ev0=ev.getD (a+k) ev0:=by
 rw [gDe,gDe,Kx]
end Go.Sei
namespace Go.Proofs.YtpalcnbhkigagaaGreatDoor
open Go.Vc Go.RowKit Go.Sei
structure ExV (w:Wd) (x:ExD) (q:OA):Prop where
 ev:SlR evE w q x.ev
 n:x.ev.length<=20
 po:zV x.po.to
 rf:zV x.rf.to
 co:zV x.co.to
 dt:zV x.dt.to
 ct:zV x.ct.to
 rm:zV x.rm.to
structure ExW (w:Wd) (x:ExD) (q:OA):Prop where
 ev:SlR evE w q x.ev
 n:x.ev.length<=48
 w20:∀ l,(z9 x l).length<=20
 po:zV x.po.to
 rf:zV x.rf.to
 co:zV x.co.to
 dt:zV x.dt.to
 ct:zV x.ct.to
 rm:zV x.rm.to
theorem ExV.w {w:Wd} {x:ExD} {q:OA} (h:ExV w x q):ExW w x q:=by
 refine⟨h.ev,by have:=h.n;omega,fun l=>?_,h.po,h.rf,h.co,h.dt,h.ct,h.rm⟩;have h1:(z9 x l).length<=x.ev.length:=by
  refine UM (JM ..) ?_;rw [KW];exact UW _
 have:=h.n;omega
theorem ExW.below {w w2:Wd} {x:ExD} {q:OA} (h:ExW w x q) (hb:Bw w w2):ExW w2 x q:=⟨h.ev.below hb,h.n,h.w20,h.po,h.rf,h.co,h.dt,h.ct,h.rm⟩
theorem ExV.below {w w2:Wd} {x:ExD} {q:OA} (h:ExV w x q) (hb:Bw w w2):ExV w2 x q:=⟨h.ev.below hb,h.n,h.po,h.rf,h.co,h.dt,h.ct,h.rm⟩
theorem zcr {w:Wd} {q:OA} {l:List Ev} (h:SlR evE w q l) {i:Nat} (hi:i<l.length):∃ b o,q=some ⟨b,o,none⟩/\b<w.heap.size/\zx w ⟨b,o+i*7,none⟩ (evE.enc (l.getD i ev0)):=by
 obtain⟨b,o,hq,hb,hat⟩:=h.at hi;refine⟨b,o,hq,hb,?_⟩;rw [gDe,gE hi];exact hat i hi
theorem zsM:TyEq PG 45 false 1 1 (fun cs=>∃ x,cs=[.int .u64 x]) := .int Tryz.underlying45 (fun w=>Tryz.isAgg45 w) (qI (by kernel_rfl) (by kernel_rfl)).1 (by kernel_rfl)
theorem zsm:TyEq PG 3 false 1 1 (fun cs=>∃ x,cs=[.int .i64 x]) := .int Tryz.underlying3 (fun w=>Tryz.isAgg3 w) (qI (by kernel_rfl) (by kernel_rfl)).1 (by kernel_rfl)
theorem zsk:∃ G,TyEq PG 46 true 48 2 G/\∀ f:Nat->Nat,G (zay f):=by
 refine⟨_,.array (m:=48) (by decide) Tryz.underlying46 (fun w=>Tryz.isAgg46 w) (qI (by kernel_rfl) (by kernel_rfl)).1 (by kernel_rfl) zsM,fun f i hi=>⟨(f i:Nat),?_⟩⟩;unfold zW;have h:=zcm f hi;rw [UX];have hl:i<(zay f).length:=by rw [za2];exact hi
 rw [<- JF hl,List.take_succ_cons,Up];rw [gE hl] at h;rw [Uf h];rfl
theorem zqP:∃ G,TyEq PG 48 true 49 3 G/\∀ r:RelD,G (zj r):=by
 obtain⟨G,h1,h2⟩:=zsk;refine⟨_,.struct (uf Tryz.underlying48).1 (by kernel_rfl) (fun w=>Tryz.isAgg48 w) (qI (by kernel_rfl) (by kernel_rfl)).1 (by kernel_rfl)
  (by rw [(uf Tryz.underlying48).2];exact .cons (by decide) rfl (zsm.up 1) (.cons (by decide) rfl h1 .nil)),fun r=>?_⟩
 exact⟨⟨_,rfl⟩,by have:=h2 r.to;have e:((zj r).drop 1).take 48=zay r.to:=JH (by rw [show (zj r).drop 1=zay r.to from rfl,za2];decide);rw [e];exact this,trivial⟩
theorem zeJ {a b:RelD}:zj a=zj b↔qM a b=true:=by
 unfold qM;rw [bAT,dE,Qk];constructor
 ·intro h;have h1:i64 a.n=i64 b.n:=Jy h;have h2:zay a.to=zay b.to:=List.tail_eq_of_cons_eq h;refine⟨by injection h1,fun i hi=>Us ?_⟩;have hi:=Uo.1 hi;have h3:=zcm a.to hi;rw [h2,zcm b.to hi] at h3;have h4:=Uf h3;unfold s64 at h4;injection h4 with _ h5;omega
 ·rintro⟨h1,h2⟩;unfold zj zay;rw [h1];congr 1;refine Kl fun i hi=>?_;rw [dT (h2 i hi)]
theorem zbg (x y:Operand) (a b:RelD) (w:Wd):(do eqGuard .eql 48 x y (.agg (zj a).toArray) (.agg (zj b).toArray);binOp .eql 48 (.agg (zj a).toArray) (.agg (zj b).toArray)).run PG w = .ok (.bool (qM a b)) w:=by
 obtain⟨G,h1,h2⟩:=zqP;have:=ziz h1 9997 rfl (by kernel_rfl) (zh a) (zh b) (h2 a) (h2 b) x y w;rw [this,zbx zeJ,Kg]
theorem zc8 (x y:Operand) (a b:RelD) (w:Wd):(do eqGuard .neq 48 x y (.agg (zj a).toArray) (.agg (zj b).toArray);binOp .neq 48 (.agg (zj a).toArray) (.agg (zj b).toArray)).run PG w = .ok (.bool (!qM a b)) w:=by
 obtain⟨G,h1,h2⟩:=zqP;have:=zkS h1 9997 rfl (by kernel_rfl) (zh a) (zh b) (h2 a) (h2 b) x y w;rw [this,zbx zeJ,Kg]
theorem zsO:∃ G,TyEq PG 60 true 7 2 G/\∀ e:Ev,G (evE.enc e):=by
 refine⟨_,.struct (uf Tryz.underlying60).1 (by kernel_rfl) (fun w=>Tryz.isAgg60 w) (qI (by kernel_rfl) (by kernel_rfl)).1 (by kernel_rfl)
  (by rw [(uf Tryz.underlying60).2];exact .cons (by decide) rfl zsm (.cons (by decide) rfl tU8 (.cons (by decide) rfl tU8 (.cons (by decide) rfl tU8 (.cons (by decide) rfl tU8 (.cons (by decide) rfl tU8 (.cons (by decide) rfl tU8 .nil))))))),fun e=>?_⟩
 exact⟨⟨_,rfl⟩,⟨_,rfl⟩,⟨_,rfl⟩,⟨_,rfl⟩,⟨_,rfl⟩,⟨_,rfl⟩,⟨_,rfl⟩,trivial⟩
theorem zm7 {a b:Ev}:evE.enc a=evE.enc b↔a=b:=by
 constructor
 ·intro h;obtain⟨a1,a2,a3,a4,a5,a6,a7⟩:=a;obtain⟨b1,b2,b3,b4,b5,b6,b7⟩:=b;have h:[i64 a1,u8 a2,u8 a3,u8 a4,u8 a5,u8 a6,u8 a7]=[i64 b1,u8 b2,u8 b3,u8 b4,u8 b5,u8 b6,u8 b7]:=h;simp only [QL,Gi,u8,Value.int.injEq,true_and,ji] at h;obtain⟨h1,rfl,rfl,rfl,rfl,rfl,rfl⟩:=h;have h1:a1=b1:=by injection h1
  rw [h1]
 ·rintro rfl;rfl
theorem zkT (x y:Operand) (a b:Ev) (w:Wd):(do eqGuard .neq 60 x y (.agg (evE.enc a).toArray) (.agg (evE.enc b).toArray);binOp .neq 60 (.agg (evE.enc a).toArray) (.agg (evE.enc b).toArray)).run PG w = .ok (.bool (!decide (a=b))) w:=by
 obtain⟨G,h1,h2⟩:=zsO;have:=zkS h1 9998 rfl (by kernel_rfl) (a:=evE.enc a) (b:=evE.enc b) rfl rfl (h2 a) (h2 b) x y w;rw [this,zbx zm7]
theorem zdL:∀ (ev:List Ev) (k:Nat),(∀ j,j<k->(ev.getD j ev0).th = -1)->k<=ev.length->jb ev=k+jb (ev.drop k)
 | ev,0,_,_=>by rw [Um,UR]
 | [],k+1,_,h=>by simp at h
 | e::ev,k+1,hj,h=>by
  have h0:e.th = -1:=hj 0 (by omega);have ih:=zdL ev k (fun j hjk=>hj (j+1) (by omega)) (by simpa using h);unfold jb at ih ⊢;rw [Ko,Gp (Us h0),Qt,ih,List.drop_succ_cons];omega
section
variable {q:OA} {c:Nat} {ev:List Ev} {w:Wd}
theorem zkY (hl:SlR evE w q ev) (hn:ev.length<=1000):CB 29 #[.slice q ev.length c] w (i64 (jb ev:Nat)):=by
 refine zH 19 [.slice q ev.length c] Tryz.func29 ?_;refine⟨Nat,fun k=>⟨[(0,.slice q ev.length c),(5,.slice q ev.length c),(6,i64 ev.length),(7,i64 (k:Nat))],[]⟩,fun k X=>k<=ev.length/\(∀ j,j<k->(ev.getD j ev0).th = -1)/\Bw w X,fun k=>ev.length-k,0,(cvE rfl rfl),⟨UZ _,fun j h=>by omega,Gb _ _⟩,?_⟩;rintro k X ⟨hk,hj,hbX⟩;dsimp only;have hXs:=hbX.size;refine biE (fun hc=>?_) fun hc=>?_
 ·have hc:(k:Int)<(ev.length:Int):=dT hc;have hkl:k<ev.length:=by omega
  obtain⟨b,o,rfl,hb,hat⟩:=zcr (hl.below hbX) hkl;obtain⟨e,he⟩:=nm (ev.getD k ev0);rw [<- he] at hat;refine⟨k,rfl,hkl,evE.enc e,rfl,hat,hb,zn (X:=X) (v := .agg (evE.enc e).toArray) k60 rfl rfl (Qk.2 fun u hu=>evE.one e u hu) fun Y hbY fY sY=>?_⟩;have fY:Y.heap[X.heap.size]?=some (.cells (evE.enc e).toArray 60 (0,0)):=fY;refine⟨i64 e.th,zc (za fY) (i:=0) rfl,?_⟩;have hbY2:=hbX.trans (hbY.mono hXs);refine biE (fun h=>?_) fun h=>?_
  ·have h:(!decide (e.th = -1))=true:=h;have h:¬ e.th = -1:=by simpa using h
   refine⟨?_,hbY2⟩;have h2:=zdL ev k hj hk;have h3:jb (ev.drop k)=0:=by
    unfold jb;have h4:ev[k]=e:=(by rw [he,gDe,gE hkl];rfl);rw [<- JF hkl,Ko,h4,Gn (by simpa using h)];rfl
   rw [h3] at h2;exact ri (by omega)
  ·have h:(!decide (e.th = -1))=false:=h;have h:e.th = -1:=by simpa using h
   refine nxI (by omega) ⟨k+1,(cvE rfl rfl),⟨hkl,fun j hjk=>?_,hbY2⟩,zdc (by omega)⟩;by_cases e2:j=k
   ·rw [e2,<- he];exact h
   ·exact hj j (by omega)
 ·have hc:¬ (k:Int)<(ev.length:Int):=dF hc;obtain rfl:k=ev.length:=by omega
  refine⟨?_,hbX⟩;have h2:=zdL ev ev.length hj (UW _);rw [Qn] at h2;exact ri (by rw [h2];show ((ev.length:Nat):Int)=((ev.length+0:Nat):Int);rfl)
theorem zoY {i:Nat} {v:UInt8}:zdv (zig [(0,1,false),(1,1,false),(2,1,false),(3,1,false),(4,1,false),(5,1,false),(6,1,false)]) (evE.enc ev0) [(0,i64 (-1)),(1,u8 2),(2,u8 (UInt8.ofNat i)),(3,u8 v)]=some (evE.enc ⟨-1,2,UInt8.ofNat i,v,0,0,0⟩):=rfl
theorem zg2 {locs:Nat} (hl:SlR evE w q ev) (hn:ev.length<=1000) (hlo:locs<=1000):CB 30 #[.slice q ev.length c,i64 locs] w (.bool (jD ev locs)):=by
 refine zH 69 [.slice q ev.length c,i64 locs] Tryz.func30 ?_;refine⟨Nat×Int×Nat,fun s=>⟨[(1,i64 locs),(5,i64 s.2.1),(6,i64 (s.2.2:Nat)),(9,.slice q ev.length c),(10,i64 ev.length),(11,i64 (s.1:Nat))],[]⟩,fun s X=>s.1<=ev.length/\s.2.2<=s.1/\zjT locs s.1 (ev.drop s.1) s.2.1 s.2.2=jD ev locs/\Bw w X,fun s=>ev.length-s.1,(0,0,0),(cvE rfl rfl),⟨UZ _,UW _,rfl,Gb _ _⟩,?_⟩;rintro⟨k,t,m⟩ X ⟨hk,hm,hgo,hbX⟩;dsimp only at hk hm hgo ⊢;have hXs:=hbX.size;refine biE (fun hc=>?_) fun hc=>?_
 ·have hc:(k:Int)<(ev.length:Int):=dT hc;have hkl:k<ev.length:=by omega
  obtain⟨b,o,rfl,hb,hat⟩:=zcr (hl.below hbX) hkl;obtain⟨e,he⟩:=nm (ev.getD k ev0);rw [<- he] at hat;have hdr:ev.drop k=e::ev.drop (k+1):=by
   rw [<- JF hkl,he,gDe,gE hkl];rfl
  rw [hdr] at hgo;unfold zjT at hgo;refine⟨k,rfl,hkl,evE.enc e,rfl,hat,hb,zn (X:=X) (v := .agg (evE.enc e).toArray) k60 rfl rfl (Qk.2 fun u hu=>evE.one e u hu) fun Y hbY fY sY=>?_⟩;have fY:Y.heap[X.heap.size]?=some (.cells (evE.enc e).toArray 60 (0,0)):=fY;have hbY2:=hbX.trans (hbY.mono hXs);have ld:∀ {i:Nat} {v:Value},(evE.enc e)[i]?=some v->Y.cell? ⟨X.heap.size,0+i,none⟩=some v:=fun h=>zc (za fY) h;have no:jD ev locs=false->(Ending.returned (.bool false)=Ending.returned (.bool (jD ev locs))/\Bw w Y):=fun h=>⟨rb h.symm,hbY2⟩;refine biE (fun h=>?_) fun h=>?_
  ·have h:(k:Int)<(locs:Int):=dT h;rw [Gp (by omega:k<locs)] at hgo;refine⟨evE.enc e,rfl,za fY,hlt fY,_,w8N k,u8 e.v,ld (i:=3) rfl,evE.enc ⟨-1,2,UInt8.ofNat k,e.v,0,0,0⟩,zoY,_,fun w=>zkT _ _ e _ w,biE (fun h2=>?_) fun h2=>?_⟩
   ·have h2:¬ e=⟨-1,2,UInt8.ofNat k,e.v,0,0,0⟩:=(by simpa using h2);rw [Gn h2] at hgo;exact no hgo.symm
   ·have h2:e=⟨-1,2,UInt8.ofNat k,e.v,0,0,0⟩:=(by simpa using h2);rw [Gp h2] at hgo;exact nxI (by omega) ⟨(k+1,t,m),(cvE rfl rfl),⟨hkl,by show m<=k+1;omega,hgo,hbY2⟩,zdc (by omega)⟩
  ·have h:¬ (k:Int)<(locs:Int):=dF h;rw [Gn (by omega:¬ k<locs)] at hgo;refine⟨i64 e.th,ld (i:=0) rfl,biE (fun h1=>?_) fun h1=>?_⟩
   ·have h1:e.th<t:=dT h1;refine brT ?_;rw [Gp (.inl h1)] at hgo;exact no hgo.symm
   have h1:¬ e.th<t:=dF h1;refine⟨i64 e.th,ld (i:=0) rfl,biE (fun h2=>?_) fun h2=>?_⟩
   ·have h2:4<=e.th:=dT h2;rw [Gp (.inr h2)] at hgo;exact no hgo.symm
   have h2:¬ 4<=e.th:=dF h2;rw [Gn (by rintro (h | h);exact h1 h;exact h2 h)] at hgo;refine⟨i64 e.th,ld (i:=0) rfl,biE (fun h9=>?_) fun h9=>?_⟩
   ·have h9:t<e.th:=dT h9;dsimp only at hgo;rw [Gp h9,Gp h9] at hgo;refine⟨i64 e.th,ld (i:=0) rfl,u8 e.p,ld (i:=6) rfl,(e.p.toNat:Int),qH _,biE (fun h3=>?_) fun h3=>?_⟩
    ·have h3:¬ e.p.toNat=0:=by
      have h3:(!decide ((e.p.toNat:Int)=(0:Nat)))=true:=h3;simpa using h3
     rw [Gn h3] at hgo;exact no hgo.symm
    have h3:e.p.toNat=0:=by
     have h3:(!decide ((e.p.toNat:Int)=(0:Nat)))=false:=h3;simpa using h3
    rw [Gp h3] at hgo;refine⟨((0+1:Nat):Int),(ze (by omega)).trans (by omega),u8 e.k,ld (i:=1) rfl,biE (fun h4=>?_) fun h4=>?_⟩
    ·refine brE h4 ?_;have h4:e.k=1:=ji.1 (dT h4);rw [Gp (.inl h4)] at hgo;refine⟨u8 e.l,ld (i:=2) rfl,(e.l.toNat:Int),qH _,biE (fun h5=>?_) fun h5=>?_⟩
     ·have h5:(locs:Int)<=(e.l.toNat:Int):=dT h5;rw [Gn (by omega)] at hgo;exact no hgo.symm
     ·have h5:¬ (locs:Int)<=(e.l.toNat:Int):=dF h5;rw [Gp (by omega)] at hgo;exact nxI (by omega) ⟨(k+1,e.th,0+1),(cvE rfl rfl),⟨hkl,by show 0+1<=k+1;omega,hgo,hbY2⟩,zdc (by omega)⟩
    have h4:¬ e.k=1:=fun e2=>(dF h4) (by rw [e2];rfl);refine biE (fun h5=>?_) fun h5=>?_
    ·have h5:e.k=2:=ji.1 (dT h5);rw [Gp (.inr h5)] at hgo;refine⟨u8 e.l,ld (i:=2) rfl,(e.l.toNat:Int),qH _,biE (fun h5=>?_) fun h5=>?_⟩
     ·have h5:(locs:Int)<=(e.l.toNat:Int):=dT h5;rw [Gn (by omega)] at hgo;exact no hgo.symm
     ·have h5:¬ (locs:Int)<=(e.l.toNat:Int):=dF h5;rw [Gp (by omega)] at hgo;exact nxI (by omega) ⟨(k+1,e.th,0+1),(cvE rfl rfl),⟨hkl,by show 0+1<=k+1;omega,hgo,hbY2⟩,zdc (by omega)⟩
    have h5:¬ e.k=2:=fun e2=>(dF h5) (by rw [e2];rfl);rw [Gn (by rintro (h | h);exact h4 h;exact h5 h)] at hgo;refine biE (fun h6=>?_) fun h6=>?_
    ·have h6:e.k=3:=ji.1 (dT h6);rw [Gp h6] at hgo;refine⟨u8 e.l,ld (i:=2) rfl,biE (fun h7=>?_) fun h7=>?_⟩
     ·have h7:¬ e.l=0:=by
       have h7:(!decide ((e.l.toNat:Int)=0))=true:=h7;intro e2;rw [e2] at h7
       cases h7
      refine brT ?_;rw [Gn fun h=>h7 h.1] at hgo;exact no hgo.symm
     ·have h7:e.l=0:=by
       have h7:(!decide ((e.l.toNat:Int)=((0:UInt8).toNat:Int)))=false:=h7;exact ji.1 (by simpa using h7)
      refine⟨u8 e.v,ld (i:=3) rfl,biE (fun h8=>?_) fun h8=>?_⟩
      ·have h8:¬ e.v=0:=by
        have h8:(!decide ((e.v.toNat:Int)=0))=true:=h8;intro e2;rw [e2] at h8
        cases h8
       rw [Gn fun h=>h8 h.2] at hgo;exact no hgo.symm
      ·have h8:e.v=0:=by
        have h8:(!decide ((e.v.toNat:Int)=((0:UInt8).toNat:Int)))=false:=h8;exact ji.1 (by simpa using h8)
       rw [Gp ⟨h7,h8⟩] at hgo;exact nxI (by omega) ⟨(k+1,e.th,0+1),(cvE rfl rfl),⟨hkl,by show 0+1<=k+1;omega,hgo,hbY2⟩,zdc (by omega)⟩
    ·have h6:¬ e.k=3:=fun e2=>(dF h6) (by rw [e2];rfl);rw [Gn h6] at hgo;exact no hgo.symm
   ·have h9:¬ t<e.th:=dF h9;dsimp only at hgo;rw [Gn h9,Gn h9] at hgo;refine⟨u8 e.p,ld (i:=6) rfl,(e.p.toNat:Int),qH _,biE (fun h3=>?_) fun h3=>?_⟩
    ·have h3:¬ e.p.toNat=m:=by
      have h3:(!decide ((e.p.toNat:Int)=(m:Nat)))=true:=h3;intro e2;rw [e2] at h3;simp at h3
     rw [Gn h3] at hgo;exact no hgo.symm
    have h3:e.p.toNat=m:=by
     have h3:(!decide ((e.p.toNat:Int)=(m:Nat)))=false:=h3;have h3:(e.p.toNat:Int)=(m:Nat):=(by simpa using h3);omega
    rw [Gp h3] at hgo;refine nxI (by omega) ⟨u8 e.k,ld (i:=1) rfl,biE (fun h4=>?_) fun h4=>?_⟩
    ·refine brE h4 ?_;have h4:e.k=1:=ji.1 (dT h4);rw [Gp (.inl h4)] at hgo;refine⟨u8 e.l,ld (i:=2) rfl,(e.l.toNat:Int),qH _,biE (fun h5=>?_) fun h5=>?_⟩
     ·have h5:(locs:Int)<=(e.l.toNat:Int):=dT h5;rw [Gn (by omega)] at hgo;exact no hgo.symm
     ·have h5:¬ (locs:Int)<=(e.l.toNat:Int):=dF h5;rw [Gp (by omega)] at hgo;exact nxI (by omega) ⟨(k+1,t,m+1),(cvE rfl rfl),⟨hkl,by show m+1<=k+1;omega,hgo,hbY2⟩,zdc (by omega)⟩
    have h4:¬ e.k=1:=fun e2=>(dF h4) (by rw [e2];rfl);refine biE (fun h5=>?_) fun h5=>?_
    ·have h5:e.k=2:=ji.1 (dT h5);rw [Gp (.inr h5)] at hgo;refine⟨u8 e.l,ld (i:=2) rfl,(e.l.toNat:Int),qH _,biE (fun h5=>?_) fun h5=>?_⟩
     ·have h5:(locs:Int)<=(e.l.toNat:Int):=dT h5;rw [Gn (by omega)] at hgo;exact no hgo.symm
     ·have h5:¬ (locs:Int)<=(e.l.toNat:Int):=dF h5;rw [Gp (by omega)] at hgo;exact nxI (by omega) ⟨(k+1,t,m+1),(cvE rfl rfl),⟨hkl,by show m+1<=k+1;omega,hgo,hbY2⟩,zdc (by omega)⟩
    have h5:¬ e.k=2:=fun e2=>(dF h5) (by rw [e2];rfl);rw [Gn (by rintro (h | h);exact h4 h;exact h5 h)] at hgo;refine biE (fun h6=>?_) fun h6=>?_
    ·have h6:e.k=3:=ji.1 (dT h6);rw [Gp h6] at hgo;refine⟨u8 e.l,ld (i:=2) rfl,biE (fun h7=>?_) fun h7=>?_⟩
     ·have h7:¬ e.l=0:=by
       have h7:(!decide ((e.l.toNat:Int)=0))=true:=h7;intro e2;rw [e2] at h7
       cases h7
      refine brT ?_;rw [Gn fun h=>h7 h.1] at hgo;exact no hgo.symm
     ·have h7:e.l=0:=by
       have h7:(!decide ((e.l.toNat:Int)=((0:UInt8).toNat:Int)))=false:=h7;exact ji.1 (by simpa using h7)
      refine⟨u8 e.v,ld (i:=3) rfl,biE (fun h8=>?_) fun h8=>?_⟩
      ·have h8:¬ e.v=0:=by
        have h8:(!decide ((e.v.toNat:Int)=0))=true:=h8;intro e2;rw [e2] at h8
        cases h8
       rw [Gn fun h=>h8 h.2] at hgo;exact no hgo.symm
      ·have h8:e.v=0:=by
        have h8:(!decide ((e.v.toNat:Int)=((0:UInt8).toNat:Int)))=false:=h8;exact ji.1 (by simpa using h8)
       rw [Gp ⟨h7,h8⟩] at hgo;exact nxI (by omega) ⟨(k+1,t,m+1),(cvE rfl rfl),⟨hkl,by show m+1<=k+1;omega,hgo,hbY2⟩,zdc (by omega)⟩
    ·have h6:¬ e.k=3:=fun e2=>(dF h6) (by rw [e2];rfl);rw [Gn h6] at hgo;exact no hgo.symm
 ·have hc:¬ (k:Int)<(ev.length:Int):=dF hc;obtain rfl:k=ev.length:=by omega
  rw [Qn] at hgo;exact⟨rb hgo,hbX⟩
end
end Go.Proofs.YtpalcnbhkigagaaGreatDoor
namespace Go.Vc
open Go.RowKit
def zpi {α:Type} (P:Program) (g:Nat) (lb:List Value) (xs:List α) (W0:Wd) (Rd:Nat->Prop) (St:List α->List Value->Wd->Prop) (Gv:List Value->Nat->Prop):Prop :=
 ∀ (l:Nat) (F0:Nat->Prop) (J:List α->(Nat->Prop)->Wd->Prop) (W:Wd),W0.heap.size<=W.heap.size->(∀ k,Rd k->W.heap[k]?=W0.heap[k]?)->(∀ k,Rd k->¬ F0 k) ->
  JG W.heap.size (fun _=>False) J ->
  (∀ pre x vs F W1,J pre F W1->St (pre++[x]) vs W1->(∀ k,Gv vs k->W.heap.size<=k)->(pre++[x]) <+: xs->YieldR P l vs.toArray W1 fun v W2 =>
   v = .bool true/\∃ F',J (pre++[x]) F' W2/\KeepsG (fun k=>F k\/Gv vs k) F' W1 W2) ->
  J [] F0 W ->
  Calls P g (.func (.yield l) #[] #[]::lb).toArray W fun e W'=>(∃ v,e = .returned v)/\∃ F',J xs F' W'
theorem zrj {α:Type} {S:Sig} (hS:SigOk S) (hr:S.r=none) {f:Operand} {ps:Array Tmp} {assign body:Code} {E:Env} {w:Wd} {Q:Exit->Env->Wd->Prop}
  {gf:Nat} {lb:Array Value} (hg:opd E f=some (.func (.func gf) #[] lb)) (hok:zae S gf=true)
  {xs:List α} {W0:Wd} {Rd:Nat->Prop} {St:List α->List Value->Wd->Prop} {Gv:List Value->Nat->Prop} (hI:zpi S.P gf lb.toList xs W0 Rd St Gv) (hGv:∀ pre vs W k,St pre vs W->Gv vs k->∃ cs t fr,W.heap[k]?=some (.cells cs t fr)) (hW0:W0.heap.size<=w.heap.size) (hRd:∀ k,Rd k->k<W0.heap.size/\w.heap[k]?=W0.heap[k]?)
  (hps:∀ pre vs W,St pre vs W->vs.length=ps.size) (hpn:∀ p∈ps.toList,p<S.n)
  (F0:Nat->Prop) (J:List α->(Nat->Prop)->Wd->Prop) (hRF:∀ k,Rd k->¬ F0 k)
  (hJ:JG w.heap.size (fun _=>False) J) (h0:J [] F0 w)
  (hround:∀ (l:Nat) (pre:List α) (x:α) (vs:List Value) (F:Nat->Prop) (W:Wd),w.heap.size<=l->(pre++[x]) <+: xs->J pre F W->St (pre++[x]) vs W->(∀ k,Gv vs k->w.heap.size<=k)->¬ F l->(∃ lo,W.heap[l]?=some (.loop lo)) ->
   wpE (sr S l) assign ⟨zfT ps.toList vs E.vs,[]⟩ W fun ex E1 W1=>ex = .normal/\∃ F1,KeepsG (fun k=>F k\/Gv vs k) F1 W W1/\J pre F1 W1 /\
    ∀ o W2,W2=W1.putObj l o->J pre F1 W2->wpE (sr S l) body E1 W2 (zq1 F1 J (fun _ _ _ _=>False) (pre++[x]) W2))
  (hdone:∀ D F W,w.heap.size<=D->¬ F D->J xs F W->W.heap[D]?=some (.deferred (some []))->Q .normal ⟨E.vs,{ target := .collected D,args := #[] }::E.ds⟩ W) :
  ziQ S f ps assign body E w Q:=by
 intro a ha;have hcall:∀ args w,(callFunc gf args).run S.P w = .ok (.enter gf args) w:=by
  simp only [zae,bAT,Gd,Ge] at hok;exact fun args w=>hS.call gf hok.1.1 hok.1.2 hok.2 args w
 refine wpIn_rangeFunc ?_;intro fn hfn;have hro:(FR S.r).round=none:=hr;rw [hro];obtain⟨rec,hrec⟩:∃ rec:LoopState->Option Code->Loop,rec=fun st pe=>{ state:=st,pending:=pe,fn,tmps:=a.tmps,params:=ps,assign,body,defers:=w.heap.size }:=⟨_,rfl⟩;obtain⟨W1,hW1⟩:∃ W1,(w.alloc (.deferred (some []))).alloc (.loop (rec .ready none))=W1:=⟨_,rfl⟩;have hK0:=zy w (.deferred (some []));have hK1:W1.heap[w.heap.size]?=some (.deferred (some [])):=by rw [<- hW1];exact qF _ hK0
 have hL1:W1.heap[w.heap.size+1]?=some (.loop (rec .ready none)):=by
  rw [<- hW1];have:=zy (w.alloc (.deferred (some []))) (.loop (rec .ready none));rwa [wz] at this
 have hs1:W1.heap.size=w.heap.size+2:=by rw [<- hW1];simp
 have hst1:Bw w W1:=by
  rw [<- hW1];exact ((zba w _)).alloc (by simp) _
 have hJ1:=hJ.step _ _ _ _ h0 (.below hst1);have hFl:∀ k,F0 k->k<w.heap.size:=fun k hk=>(hJ.lt _ _ _ k h0 hk).1;refine⟨w.heap.size+1,[{ target := .collected w.heap.size,args := #[] }],W1,{ target := .fn (.func gf) lb,args := #[.func (.yield (w.heap.size+1)) #[] #[]] },W1,gf,
  #[.func (.yield (w.heap.size+1)) #[] #[]]++lb,W1,?_,?_,fun _ _=>trivial,?_,fun h=>by simp [FR] at h,?_⟩
 ·rw [<- hW1,hrec];exact Kr _ _ _ _ _
 ·have hg':=ha.eval hg;simp only [resolve,hg'];simp [go_sem]
 ·simp [invoke,go_sem,hcall]
 ·have hargs : #[Value.func (.yield (w.heap.size+1)) #[] #[]]++lb=(Value.func (.yield (w.heap.size+1)) #[] #[]::lb.toList).toArray:=by rw [<- Qf];simp
  rw [hargs];have book:∀ {σ:Type} {K:σ->(Nat->Prop)->Wd->Prop} (lo:Loop),JG w.heap.size (fun _=>False) K->JG W1.heap.size (fun _=>False) (fun s F W=>K s F W/\W.heap[w.heap.size+1]?=some (.loop lo)/\W.heap[w.heap.size]?=some (.deferred (some []))/\¬ F (w.heap.size+1)/\¬ F w.heap.size):=by
   intro σ K lo hK;exact⟨fun s F A B ⟨hk,hl,hd,hf1,hf2⟩ hs=>⟨hK.step s F A B hk (hs.mono (by omega)),(hs.same _ (hlt hl) (.inl ⟨by omega,fun h=>h⟩)).trans hl,(hs.same _ (hlt hd) (.inl ⟨by omega,fun h=>h⟩)).trans hd,hf1,hf2⟩,fun s F A k ⟨hk,_⟩ hf=>hK.lt s F A k hk hf⟩
  have hcalls:=hI (w.heap.size+1) F0 (fun pre F W=>J pre F W/\W.heap[w.heap.size+1]?=some (.loop (rec .ready none))/\W.heap[w.heap.size]?=some (.deferred (some []))/\¬ F (w.heap.size+1)/\¬ F w.heap.size)
   W1 (by omega) (fun k hk=>by
    obtain⟨h1,h2⟩:=hRd k hk;rw [<- h2];exact hst1.block k (by omega)) hRF (book _ hJ) ?_ ⟨hJ1,hL1,hK1,fun h=>by have:=hFl _ h;omega,fun h=>by have:=hFl _ h;omega⟩
  ·refine zcy (hcalls.mono ?_);rintro e W2 ⟨⟨v,rfl⟩,F,hj,hl,hk,hf1,hf2⟩;have hj2:=hJ.step _ _ _ _ hj (StepG.put (Ow:=fun _=>False) (o := .loop (rec .exhausted none)) (n0:=w.heap.size) (l:=w.heap.size+1) (by omega) hf1);refine⟨none,_,by have:=Ga (P:=S.P) hl (by rw [hrec];simp);rw [hrec] at this;exact this,?_⟩;rw [hrec] at hj2;exact⟨⟨E.vs,{ target := .collected w.heap.size,args := #[] }::E.ds⟩,⟨ha.size,by simp [ha.defers],ha.val⟩,hdone w.heap.size F _ (UW _) hf2 hj2 ((zg (by omega)).trans hk)⟩
  ·rintro pre x vs F W ⟨hj,hl,hk,hf1,hf2⟩ hst0 hgv0 hpre;have hg1:¬ (F (w.heap.size+1)\/Gv vs (w.heap.size+1)):=fun h=>h.elim hf1 fun h=>by
    obtain⟨_,_,_,h2⟩:=hGv _ _ _ _ hst0 h;rw [hl] at h2;cases h2
   have hg2:¬ (F w.heap.size\/Gv vs w.heap.size):=fun h=>h.elim hf2 fun h=>by
    obtain⟨_,_,_,h2⟩:=hGv _ _ _ _ hst0 h;rw [hk] at h2;cases h2
   have hy:=run_yield (P:=S.P) (args:=vs.toArray) hl (by rw [hrec];simpa using hps _ _ _ hst0);rw [hrec] at hy;refine⟨fn,_,assign,body,hy,zbF (r:=none) (n:=NN) (roundIn_of_wpIn (F:=FR none) trivial ?_)⟩;have hag:Agrees (sr S (w.heap.size+1)) { tmps:=(ps.zip vs.toArray).foldl (fun t (p,v)=>t.setIfInBounds p v) a.tmps,defers:=[] } ⟨zfT ps.toList vs E.vs,[]⟩:=by
    have h1:Agrees (sr S (w.heap.size+1)) { a with defers:=[] } ⟨E.vs,[]⟩:=⟨ha.size,rfl,ha.val⟩;have h2:=zbE ps.toList vs _ _ h1 hpn;have e:(ps.zip vs.toArray).foldl (fun t (p,v)=>t.setIfInBounds p v) a.tmps=(ps.toList.zip vs).foldl (fun t (p,v)=>t.setIfInBounds p v) a.tmps:=by
     rw [<- Ks];simp
    rw [e];exact h2
   have hw:=qK (zhe hS _) assign _ _ W _ hag (hround (w.heap.size+1) pre x vs F W (by omega) hpre hj hst0 (fun k hk=>by have:=hgv0 k hk;omega) hf1 ⟨_,hl⟩);refine Gh hw ?_;rintro ex a1 Wa ⟨E1,hag1,rfl,F1,hk1,hj1,hbody⟩;have hla:=(hk1.same _ (hlt hl) hg1).trans hl;have hka:=(hk1.same _ (hlt hk) hg2).trans hk;have hfa1:¬ F1 (w.heap.size+1):=fun h=>by rcases hk1.fp _ h with h | h;exact hg1 h;have:=hlt hl;omega
   have hfa2:¬ F1 w.heap.size:=fun h=>by rcases hk1.fp _ h with h | h;exact hg2 h;have:=hlt hk;omega
   refine⟨_,run_beginRound hla (by rw [hrec]),?_⟩;have hst:StepG w.heap.size (fun _=>False) F1 Wa (Wa.putObj (w.heap.size+1) (.loop { rec .ready none with state := .busy })) := .put (by omega) hfa1 _;have hj2:=hJ.step _ _ _ _ hj1 hst;have hw2:=qK (zhe hS _) body _ _ _ _ hag1 (hbody _ _ rfl hj2);refine Gh hw2 ?_;have hl2:(Wa.putObj (w.heap.size+1) (.loop { rec .ready none with state := .busy })).heap[w.heap.size+1]?=some (.loop { rec .ready none with state := .busy }):=zb9 hla;have hk2:(Wa.putObj (w.heap.size+1) (.loop { rec .ready none with state := .busy })).heap[w.heap.size]?=some (.deferred (some [])):=(zg (by omega)).trans hka;rintro e a3 W3 ⟨E3,_,hq⟩
   cases e with
   | normal =>
    obtain⟨F3,hj3,hk3⟩:=hq;have hl3:=(hk3.same _ (hlt hl2) hfa1).trans hl2;have hd3:=(hk3.same _ (hlt hk2) hfa2).trans hk2;have hf31:¬ F3 (w.heap.size+1):=fun h=>by rcases hk3.fp _ h with h | h;exact hfa1 h;have:=hlt hl2;omega
    have hf32:¬ F3 w.heap.size:=fun h=>by rcases hk3.fp _ h with h | h;exact hfa2 h;have:=hlt hk2;omega
    have hr3:=run_endRound (P:=S.P) none hl3;have hl4:=zb9 (o' := .loop (rec .ready none)) hl3;have hk4:(W3.putObj (w.heap.size+1) (.loop (rec .ready none))).heap[w.heap.size]?=some (.deferred (some [])):=(zg (by omega)).trans hd3;have hs3:StepG w.heap.size (fun _=>False) F3 W3 (W3.putObj (w.heap.size+1) (.loop (rec .ready none))) := .put (by omega) hf31 _;have hj4:=hJ.step _ _ _ _ hj3 hs3;rw [hrec] at hr3 hl4 hk4 hs3 hj4;refine⟨_,_,hr3,rfl,F3,⟨hj4,by rw [hrec];exact hl4,hk4,hf31,hf32⟩,hs3.os.trans (hk3.os.trans hk1.os),hs3.tape.trans (hk3.tape.trans hk1.tape),hs3.output.trans (hk3.output.trans hk1.output),?_,fun k hk5 hf5=>?_,fun k hk5=>?_⟩
    ·have h1:=hk1.size;have h2:=hst.size;have h3:=hk3.size;have h4:=hs3.size;exact UM (UM (UM h1 h2) h3) h4
    ·by_cases hkl:k=w.heap.size+1
     ·subst hkl;rw [hl,hrec];exact hl4
     ·have h1:¬ F1 k:=fun h=>by rcases hk1.fp _ h with h | h;exact hf5 h;omega
      have h2:=hk1.size;have h3:=hst.size;rw [zg hkl,hk3.same k (by omega) h1,zg hkl];exact hk1.same k hk5 hf5
    ·rcases hk3.fp _ hk5 with h2 | h2
     ·exact hk1.fp _ h2
     ·have h3:=hk1.size;have h4:=hst.size;exact .inr (by omega)
   | ret=>exact (show False from (by obtain⟨_,h,_⟩:=hq;exact h)).elim
   | exit id=>exact (show False from (by obtain⟨_,h,_⟩:=hq;exact h)).elim
   | goto t=>exact hq.elim
   | panic ch=>exact hq.elim
   | outgrown=>exact hq.elim
end Go.Vc
namespace Go.Proofs.YtpalcnbhkigagaaGreatDoor
open Go.Vc Go.RowKit Go.Sei
abbrev zc3:=List zar×OA×Nat
def zgW:Enc zc3 where
 sz:=1
 enc x:=[.slice x.2.1 x.1.length x.2.2]
 len x:=rfl
 one x v hv:=by
  simp at hv;subst hv;rfl
 pos:=by decide
structure MixM (Rd:Nat->Prop) (w:Wd) (b o:Nat) (m:MixD) (q:OA) (c:Nat) (p1 p2 p3:OA) (c1 c2 c3:Nat) (xs ys:List zar):Prop where
 cells:zx w ⟨b,o,none⟩ (exC m.base q c++[.slice p1 m.rs.length c1,.slice p2 xs.length c2,.slice p3 ys.length c3])
 ev:SlR evE w q m.base.ev
 qn:q=none->c=0
 r1:SlR zw w p1 (m.rs.map (·.1))
 e2:xs.map (·.1)=m.rs.map (·.2)
 r2:SlR qW w p2 xs
 n2:∀ y∈xs,SlR zw w y.2.1 y.1
 e3:ys.map (·.1)=m.wr
 r3:SlR qW w p3 ys
 n3:∀ y∈ys,SlR zw w y.2.1 y.1
 db:Rd b
 dq:∀ a,q=some a->Rd a.block
 d1:∀ a,p1=some a->Rd a.block
 d2:∀ a,p2=some a->Rd a.block
 d3:∀ a,p3=some a->Rd a.block
 m2:∀ y∈xs,∀ a,y.2.1=some a->Rd a.block
 m3:∀ y∈ys,∀ a,y.2.1=some a->Rd a.block
theorem MixM.same {Rd:Nat->Prop} {w X:Wd} {b o:Nat} {m:MixD} {q:OA} {c:Nat} {p1 p2 p3:OA} {c1 c2 c3:Nat} {xs ys:List zar} (h:MixM Rd w b o m q c p1 p2 p3 c1 c2 c3 xs ys) (hs:∀ k,Rd k->X.heap[k]?=w.heap[k]?):MixM Rd X b o m q c p1 p2 p3 c1 c2 c3 xs ys :=
 ⟨jm (hs _ h.db) h.cells,qV h.ev fun a ha=>hs _ (h.dq a ha),h.qn,qV h.r1 fun a ha=>hs _ (h.d1 a ha),h.e2,qV h.r2 fun a ha=>hs _ (h.d2 a ha),fun y hy=>qV (h.n2 y hy) fun a ha=>hs _ (h.m2 y hy a ha),
  h.e3,qV h.r3 fun a ha=>hs _ (h.d3 a ha),fun y hy=>qV (h.n3 y hy) fun a ha=>hs _ (h.m3 y hy a ha),h.db,h.dq,h.d1,h.d2,h.d3,h.m2,h.m3⟩
theorem zef {w:Wd} {b o:Nat} {x:ExD} {q:OA} {c:Nat} {S:List Value} (h:zx w ⟨b,o,none⟩ (exC x q c++S)) {i:Nat} {v:Value} (hi:S[i]?=some v):w.cell? ⟨b,o+(333+i),none⟩=some v:=zc h (zfD hi)
theorem zs2 {B c:Nat} {V1:Wd} {p:OA} {l:List zc3} {y:zc3} {a:Addr} (ho:OwnS zgW 85 B V1 p c l) (ha:zx V1 a ([y].flatMap zgW.enc)) (hB:B<=V1.heap.size) (hl:l.length<=100000) {K:Value->Wd->Prop}
  (h:∀ p' c' w',OwnS zgW 85 B w' p' c' (l++[y])->V1.grownBy w' (p.map Addr.block)->(∀ a,p'=some a->p=some a\/a.block=V1.heap.size)->K (.slice p' (l++[y]).length c') w') :
  SatR ((Builtin.append_ #[127,127] 127 #[.slice p l.length c,.slice (some a) 1 1]).run PG V1) K :=
 ju (E:=zgW) (T:=85) (B:=B) (l:=l) (news:=[y]) (cap:=c) (m:=1) Tryz.underlying127 k85 rfl rfl rfl ho rfl ha hB (by omega) (by show (l.length+1)*24<=_;omega) fun p' c' w' a1 a2 _ a4=>h p' c' w' a1 (by rw [zag] at a2;exact a2) a4
structure CanS (B:Nat) (Z:Wd) (yl L R:Nat) (ss:List Nat) (ps:OA) (cs:Nat) (zs:List zc3) (pr:OA) (cr:Nat):Prop where
 fL:Z.heap[L]?=some (.cells #[.func (.yield yl) #[] #[]] 61 (0,0))
 fR:Z.heap[R]?=some (.cells #[.slice pr zs.length cr] 127 (0,0))
 own:OwnS zw 3 B Z ps cs ss
 rk:OwnS zgW 85 B Z pr cr zs
 n1:∀ z∈zs,OwnS qW 66 B Z z.2.1 z.2.2 z.1
 n2:∀ z∈zs,∀ y∈z.1,OwnS zw 3 B Z y.2.1 y.2.2 y.1
 dis:∀ z∈zs,∀ y∈z.1,∀ a b,ps=some a->y.2.1=some b->a.block≠b.block
theorem CanS.below {B:Nat} {Z Y:Wd} {yl L R:Nat} {ss:List Nat} {ps:OA} {cs:Nat} {zs:List zc3} {pr:OA} {cr:Nat} (h:CanS B Z yl L R ss ps cs zs pr cr) (hb:Bw Z Y):CanS B Y yl L R ss ps cs zs pr cr :=
 ⟨zb hb h.fL,zb hb h.fR,h.own.below hb,h.rk.below hb,fun z hz=>(h.n1 z hz).below hb,fun z hz y hy=>(h.n2 z hz y hy).below hb,h.dis⟩
theorem CanS.size {B:Nat} {Z Y:Wd} {yl L R:Nat} {ss:List Nat} {ps:OA} {cs:Nat} {zs:List zc3} {pr:OA} {cr:Nat} (h:CanS B Z yl L R ss ps cs zs pr cr) {ps':OA} {cs' n:Nat} (ho:OwnS zw 3 B Y ps' cs' (ss++[n])) (g:Z.grownBy Y (ps.map Addr.block)) (hat:∀ a,ps'=some a->ps=some a\/a.block=Z.heap.size):CanS B Y yl L R (ss++[n]) ps' cs' zs pr cr :=
 ⟨zZ h.fL h.own (by decide) g,zZ h.fR h.own (by decide) g,ho,jZ h.rk h.own (by decide) g,fun z hz=>jZ (h.n1 z hz) h.own (by decide) g,fun z hz y hy=>zcO (h.n2 z hz y hy) g fun a b ha hb=>h.dis z hz y hy a b ha hb,fun z hz y hy a b ha hb=>by
  rcases hat a ha with h1 | h1
  ·exact h.dis z hz y hy a b h1 hb
  ·have:=(zq (h.n2 z hz y hy) hb).2.1;omega⟩
theorem zlD {ds:List Nat}:∀ {rs:List (Nat×List Nat)} {ds:List Nat} {f:Nat->Nat},zV f->(∀ r∈rs,r.1<48)->zV (rfF rs ds f)
 | [],_,_,h,_=>h
 | (r,s)::rs,ds,f,h,hr=>by
  have h1:=hr (r,s) KA;refine zlD (rs:=rs) (ds:=ds.tail) (f:=upd f (s.getD (ds.headD 0) 0) (f (s.getD (ds.headD 0) 0)|||2^r)) ?_ fun x hx=>hr x (JY _ hx);intro j hj;by_cases e:j=s.getD (ds.headD 0) 0
  ·rw [e,zK];exact KZ (by rw [<- e];exact h j hj) (qg (by have:r<48:=h1;omega))
  ·rw [qr _ _ e];exact h j hj
theorem zmb {ev:List Ev}:∀ {Rs:List (List (List Nat))} {l:Nat} {ds:List Nat} {p:RelD×(Nat->UInt8)},zV p.1.to->(∀ R∈Rs,∀ k∈R,∀ a∈k,a<48)->zV (coG ev l Rs ds p).1.to
 | [],_,_,_,h,_=>h
 | R::Rs,l,ds,p,h,hr=>by
  refine zmb (Rs:=Rs) (l:=l+1) (ds:=ds.tail) (p:=(j7 (R.getD (ds.headD 0) []) p.1,_)) (zhz h fun a ha=>?_) fun x hx=>hr x (JY _ hx);rw [gDe] at ha
  cases hg:R[ds.headD 0]? with
  | none=>rw [hg] at ha;cases ha
  | some k =>
   rw [hg] at ha;exact hr R KA k (JZ hg) a ha
section
variable (x:ExD) (q:OA) (c:Nat)
theorem zk3:∃ A Z,A.length=50/\∀ r,exC { x with rf:=r } q c=A++(zj r++Z):=by
 obtain⟨A,Z,h1,h2⟩:=zqX x q c [];exact⟨A,Z,h1,fun r=>by rw [<- h2,QK]⟩
theorem ziy:∃ A Z,A.length=99/\∀ r,exC { x with co:=r } q c=A++(zj r++Z):=by
 obtain⟨A,Z,h1,h2⟩:=zqZ x q c [];exact⟨A,Z,h1,fun r=>by rw [<- h2,QK]⟩
theorem zqd {l:Nat} (hl:l<6) (v:UInt8):(exC x q c).set (327+l) (u8 v)=exC { x with mem:=upd x.mem l v } q c:=by
 obtain⟨A,Z,h1,h2⟩:=zoy x q c [];have e1:=h2 x.mem;have e2:=h2 (upd x.mem l v);rw [QK] at e1 e2;rw [e2];show (exC { x with mem:=x.mem } q c).set _ _=_;rw [e1,qs h1];have e3:=zdY (B:=Z) (f:=fun i=>u8 (x.mem i)) (fun i=>u8 (upd x.mem l v i)) hl (fun j hj=>by rw [qr _ _ hj]);rw [<- e3,zK]
theorem zrF (l:List Ev) (q':OA) (c':Nat):(exC x q c).set 0 (.slice q' l.length c')=exC { x with ev:=l } q' c':=rfl
end
abbrev zbX:=ExD×OA×Nat
def exE:Enc zbX:=⟨fun x=>exC x.1 x.2.1 x.2.2,333,fun _=>zC ..,by decide,fun a u hu=>Qk.1 (zbf ..) u hu⟩
abbrev ExH (X:Wd) (b:Nat) (x:ExD) (q:OA) (c:Nat):Prop:=X.heap[b]?=some (.cells (exC x q c).toArray 55 (0,0))
def StX (B:Nat) (pre:List ExD) (vs:List Value) (W:Wd):Prop:=∃ x q c,pre.getLast?=some x/\vs=[.agg (exC x q c).toArray]/\OwnS evE 60 B W q c x.ev
def GvX (vs:List Value) (k:Nat):Prop:=∃ (x:ExD) (a:Addr) (c:Nat),vs=[.agg (exC x (some a) c).toArray]/\k=a.block
theorem zkE {xs:List zar} {rs:List (Nat×List Nat)} (h:xs.map (·.1)=rs.map (·.2)):xs.map (·.1.length)=rs.map fun r=>r.2.length:=by
 have:=Gj (List.map List.length) h;rw [UH,UH] at this;exact this
theorem zjj {zs:List zc3} {ws:List (List Nat)} (h:zs.map (fun z=>z.1.map (·.1))=ws.map zF):zs.map (·.1.length)=ws.map fun w=>(zF w).length:=by
 have:=Gj (List.map List.length) h;rw [UH,UH] at this;rw [<- show zs.map (List.length ∘ fun z:zc3=>z.1.map (·.1))=zs.map (·.1.length) from Kl fun z _=>QN _];exact this
section
variable {Rd:Nat->Prop} {W0:Wd} {bx b o:Nat} {m:MixD} {q:OA} {c:Nat} {p1 p2 p3:OA} {c1 c2 c3:Nat} {xs ys:List zar}
theorem zqA (hM:MixM Rd W0 b o m q c p1 p2 p3 c1 c2 c3 xs ys) (fx:W0.heap[bx]?=some (.cells #[.pointer (some ⟨b,o,none⟩)] 126 (0,0))) (hbx:Rd bx) (hRd:∀ k,Rd k->k<W0.heap.size) (hT:Tz64M W0) (hRt:Rd 1) (hB:MixB m) (hev:m.base.ev.length<=48) :
  zpi PG 47 [At0 bx] (zcx m) W0 Rd (StX W0.heap.size) GvX:=by
 intro yl F0 J W hsz hrd hrf hJ hy h0;refine jf 141 [.func (.yield yl) #[] #[],At0 bx] (.c .p (.s .p (.c .p (.c .p (.c .p (.s .p .p)))))) Tryz.func47 ?_;have hMW:=hM.same hrd;have fxW:=(hrd bx hbx).trans fx;have hTW:Tz64M W:=jY hT (hrd _ hRt);have hRW:∀ k,Rd k->k<W.heap.size:=fun k hk=>by have:=hRd k hk;omega
 obtain⟨L,hL⟩:=nm (W.heap.size);have hxl:xs.length=m.rs.length:=by have:=Gj List.length hM.e2;simpa using this
 have hyl:ys.length=m.wr.length:=by have:=Gj List.length hM.e3;simpa using this
 have hrl48:=hB.rl;have hwl6:=hB.wl;have hx1:∀ y∈xs,y.1.length<=1000:=fun y hy=>by
  have:y.1∈m.rs.map (·.2):=by rw [<- hM.e2];exact UJ.2 ⟨y,hy,rfl⟩
  obtain⟨r,hr,he⟩:=UJ.1 this;rw [<- he];exact (hB.rs r hr).2.1
 refine⟨Unit,fun _=>⟨[(1,At0 bx),(2,At0 L)],[]⟩,fun _ X=>X.heap[L]?=some (.cells #[.func (.yield yl) #[] #[]] 61 (0,0))/\X.heap.size=L+1/\Bw W X,?_,?_⟩
 ·exact⟨(),⟨.cons rfl (.cons (by rw [hL];rfl) .nil),rfl⟩,by rw [hL];exact zy W _,by rw [hL];exact wz _ _,(zba W _)⟩
 rintro _ X ⟨fL,sX,hbX⟩;refine⟨OA×Nat,fun s=>⟨[(1,At0 bx),(2,At0 L),(3,.slice s.1 (xs.map (·.1.length)).length s.2)],[]⟩,fun s Z=>OwnS zw 3 W.heap.size Z s.1 s.2 (xs.map (·.1.length))/\Z.heap[L]?=some (.cells #[.func (.yield yl) #[] #[]] 61 (0,0))/\Bw W Z,?_,?_⟩
 ·refine⟨_,zc (za (zb hbX fxW)) (i:=0) rfl,_,zef (hMW.same fun k hk=>hbX.block k (hRW k hk)).cells (i:=1) rfl,?_⟩;refine⟨Nat×OA×Nat,fun s=>⟨[(1,At0 bx),(2,At0 L),(3,.slice s.2.1 ((xs.take s.1).map (·.1.length)).length s.2.2),(20,.slice p2 xs.length c2),(21,i64 xs.length),(22,i64 (s.1:Nat))],[]⟩,
   fun s Z=>s.1<=xs.length/\OwnS zw 3 W.heap.size Z s.2.1 s.2.2 ((xs.take s.1).map (·.1.length))/\Z.heap[L]?=some (.cells #[.func (.yield yl) #[] #[]] 61 (0,0))/\Bw W Z,fun s=>xs.length-s.1,(0,none,0),
   (cvE rfl rfl),⟨UZ _,OwnS.nil,fL,hbX⟩,?_⟩
  rintro⟨k,ps,cs⟩ Z ⟨hk,ho,fL,hbZ⟩;dsimp only at hk ho ⊢;refine biE (fun hc=>?_) fun hc=>?_
  ·have hc:(k:Int)<(xs.length:Int):=dT hc;have hkl:k<xs.length:=by omega
   have hZM:=hMW.same fun k hk=>hbZ.block k (hRW k hk);obtain⟨x,hx⟩:∃ x,xs[k]=x:=⟨_,rfl⟩;obtain⟨bp,op,hpe,hlp,hat⟩:=hZM.r2.at hkl;subst hpe;refine⟨k,rfl,hkl,slV x,by rw [<- hx];exact zc (hat k hkl) (i:=0) rfl,⟨by decide,by decide,rfl⟩,zw.enc x.1.length,rfl,?_⟩;have hb1:Bw Z (Z.alloc (.cells (zw.enc x.1.length).toArray 3)):=zba _ _;have hZs:=hbZ.size;have htl:((xs.take k).map (·.1.length)).length=k:=by rw [QN,Qv];omega
   have htk:(xs.take (k+1)).map (·.1.length)=(xs.take k).map (·.1.length)++[x.1.length]:=by
    rw [tsg hkl,QR,hx];rfl
   unfold zdE zam;show SatR _ _;refine zo7 (ho.below hb1) (qN zw x.1.length) (by have:=hb1.size;omega) (by have:=hB.rl;omega) fun p' c' U oU gU hat1=>?_;rw [zag] at gU;rw [<- htk] at oU ⊢;have fU:=zZ (zb hb1 fL) (ho.below hb1) (by decide) gU;exact nxI (by omega) ⟨(k+1,p',c'),(cvE rfl rfl),⟨hkl,oU,fU,hbZ.trans ((hb1.mono hZs).trans (jk (ho.below hb1) (by have:=hb1.size;omega) (UW _) gU))⟩,zdc (by omega)⟩
  ·have hc:¬ (k:Int)<(xs.length:Int):=dF hc;obtain rfl:k=xs.length:=by omega
   rw [Qx] at ho ⊢;exact⟨(ps,cs),(cvE rfl rfl),ho,fL,hbZ⟩
 clear fL sX hbX;rintro⟨ps,cs⟩ X ⟨ho,fL,hbX⟩;dsimp only at ho ⊢;refine⟨Nat,fun R=>⟨[(1,At0 bx),(2,At0 L),(3,.slice ps (xs.map (·.1.length)).length cs),(6,At0 R)],[]⟩,fun R Z=>CanS W.heap.size Z yl L R (xs.map (·.1.length)) ps cs [] none 0/\L<R/\Bw W Z,?_,?_⟩
 ·refine⟨X.heap.size,(cvE rfl rfl),⟨qF _ fL,zy X _,ho.alloc _,OwnS.nil,fun z hz=>(by cases hz),fun z hz=>(by cases hz),fun z hz=>(by cases hz)⟩,hlt fL,hbX.alloc hbX.size _⟩
 clear ho fL hbX;rintro R X ⟨hS,hLR,hbX⟩;refine⟨(List zc3×OA×Nat)×OA×Nat,fun s=>⟨[(1,At0 bx),(2,At0 L),(3,.slice s.2.1 (zM m).length s.2.2),(6,At0 R)],[]⟩,fun s Z=>CanS W.heap.size Z yl L R (zM m) s.2.1 s.2.2 s.1.1 s.1.2.1 s.1.2.2/\s.1.1.map (fun z=>z.1.map (·.1))=m.wr.map zF/\Bw W Z,?_,?_⟩
 ·refine⟨_,zc (za (zb hbX fxW)) (i:=0) rfl,_,zef (hMW.same fun k hk=>hbX.block k (hRW k hk)).cells (i:=2) rfl,?_⟩;refine⟨Nat×(List zc3×OA×Nat)×OA×Nat,fun s=>⟨[(1,At0 bx),(2,At0 L),(3,.slice s.2.2.1 (xs.map (·.1.length)++s.2.1.1.map (·.1.length)).length s.2.2.2),(6,At0 R),(35,.slice p3 ys.length c3),(36,i64 ys.length),(37,i64 (s.1:Nat))],[]⟩,
   fun s Z=>s.1<=ys.length/\CanS W.heap.size Z yl L R (xs.map (·.1.length)++s.2.1.1.map (·.1.length)) s.2.2.1 s.2.2.2 s.2.1.1 s.2.1.2.1 s.2.1.2.2/\s.2.1.1.map (fun z=>z.1.map (·.1))=(ys.take s.1).map (fun y=>zF y.1)/\Bw W Z,fun s=>ys.length-s.1,(0,([],none,0),ps,cs),
   ⟨.cons rfl (.cons rfl (.cons (by simp;rfl) (.cons rfl (.cons rfl (.cons rfl (.cons rfl .nil)))))),rfl⟩,⟨UZ _,by simpa using hS,rfl,hbX⟩,?_⟩
  clear hS hbX;rintro⟨k,⟨zs,pr,cr⟩,ps,cs⟩ Z ⟨hk,hS,hz,hbZ⟩;dsimp only at hk hS hz ⊢;have hzl:zs.length=k:=by
   have:=Gj List.length hz;rw [QN,QN,Qv] at this;omega
  refine biE (fun hc=>?_) fun hc=>?_
  ·have hc:(k:Int)<(ys.length:Int):=dT hc;have hkl:k<ys.length:=by omega
   have hZM:=hMW.same fun k hk=>hbZ.block k (hRW k hk);obtain⟨y,hyk⟩:∃ y,ys[k]=y:=⟨_,rfl⟩;have hym:y∈ys:=by rw [<- hyk];exact gM hkl
   have hyw:y.1∈m.wr:=by rw [<- hM.e3];exact UJ.2 ⟨y,hym,rfl⟩
   obtain⟨bw1,bw2,bw3⟩:=hB.wr _ hyw;obtain⟨bp,op,hpe,hlp,hat⟩:=hZM.r3.at hkl;subst hpe;refine⟨k,rfl,hkl,slV y,by rw [<- hyk];exact zc (hat k hkl) (i:=0) rfl,cmo (zn8 (hZM.n3 y hym) bw1 (jY hTW (hbZ.block _ (hRW _ hRt)))) ?_⟩;rintro e Y ⟨⟨rk,pk,ck,rfl,hrk,ork,onk⟩,hbY⟩;have hZs:=hbZ.size;have hSY:=hS.below hbY;have hrkl:rk.length<=10000:=by rw [<- hrk,QN] at bw2;exact bw2
   obtain⟨nz,hnz⟩:∃ nz:zc3,nz=(rk,pk,ck):=⟨_,rfl⟩;have hen:[Value.slice pk rk.length ck]=zgW.enc nz:=by rw [hnz];rfl
   refine⟨_,zc (za hSY.fR) (i:=0) rfl,⟨by decide,by decide,rfl⟩,zgW.enc nz,by rw [<- hen];rfl,?_⟩;have hb1:Bw Y (Y.alloc (.cells (zgW.enc nz).toArray 85)):=zba _ _;have hS1:=hSY.below hb1;have ork1:=ork.below hb1;have onk1:=fun x hx=>(onk x hx).below hb1;unfold zdE zam;show SatR _ _;refine zs2 hS1.rk (qN zgW nz) (by have:=hb1.size;have:=hbY.size;omega) (by have:=hB.wl;omega) fun p' c' U oU gU hat1=>?_;have fLU:=zZ hS1.fL hS1.rk (by decide) gU;have fRU:=zZ hS1.fR hS1.rk (by decide) gU;refine zk zsY fRU (o:=0) (v := .slice p' (zs++[nz]).length c') rfl rfl (by show 0<1;decide) rfl fun S fS gS sS=>?_;have hbZY:=hbZ.trans (hbY.mono hZs);have sY:=hbY.size;have sb1:=hb1.size;have hbU:Bw W U:=(hbZY.trans (hb1.mono (by omega))).trans (jk hS1.rk (by omega) (UW _) gU);have hRn:W.heap.size<=R:=by omega
   have hbS:Bw W S:=hbU.trans (zi gS hbU.size hRn);have hSS:CanS W.heap.size S yl L R (xs.map (·.1.length)++zs.map (·.1.length)) ps cs (zs++[nz]) p' c':=by
    have kU:∀ {α:Type} {E:Enc α} {T cc:Nat} {r:OA} {ll:List α},T≠85->T≠127->OwnS E T W.heap.size (Y.alloc (.cells (zgW.enc nz).toArray 85)) r cc ll->OwnS E T W.heap.size S r cc ll:=fun {α E T cc r ll} h1 h2 h=>qa (jZ h hS1.rk h1 gU) fRU h2 gS;refine⟨(gS.block L (hlt fLU) (by simp;omega)).trans fLU,fS,kU (by decide) (by decide) hS1.own,qa oU fRU (by decide) gS,fun z hz=>?_,fun z hz=>?_,fun z hz=>?_⟩
    ·rcases QS.1 hz with hz | hz
     ·exact kU (by decide) (by decide) (hS1.n1 z hz)
     ·rw [KB.1 hz,hnz];exact kU (by decide) (by decide) (ork1.lower hZs)
    ·rcases QS.1 hz with hz | hz
     ·exact fun x hx=>kU (by decide) (by decide) (hS1.n2 z hz x hx)
     ·rw [KB.1 hz,hnz];exact fun x hx=>kU (by decide) (by decide) ((onk1 x hx).lower hZs)
    ·rcases QS.1 hz with hz | hz
     ·exact hS1.dis z hz
     ·rw [KB.1 hz,hnz];intro x hx a b ha hb;have:=(zq (onk x hx) hb).1;have:=(zq hS.own ha).2.1;omega
   clear hS1 ork1 onk1 hSY hS oU gU hat1 fLU fRU fS gS;refine⟨⟨by decide,by decide,rfl⟩,zw.enc rk.length,rfl,?_⟩;have hb2:Bw S (S.alloc (.cells (zw.enc rk.length).toArray 3)):=zba _ _;have hS2:=hSS.below hb2;have sbS:=hbS.size;have sb2:=hb2.size;unfold zdE zam;show SatR _ _;refine zo7 hS2.own (qN zw rk.length) (by omega) (by rw [lap,QN,QN];have:=hB.rl;have:=hB.wl;omega) fun p2' c2' V oV gV hat2=>?_;rw [zag] at gV;have hSV:=hS2.size oV gV hat2;have hzz:(xs.map (·.1.length)++zs.map (·.1.length))++[rk.length]=xs.map (·.1.length)++(zs++[nz]).map (·.1.length):=by
    rw [QR,KQ,hnz];rfl
   rw [hzz] at hSV ⊢;refine nxI (by omega) ⟨(k+1,(zs++[nz],p',c'),p2',c2'),(cvE rfl rfl),⟨hkl,hSV,?_,hbS.trans ((hb2.mono sbS).trans (jk hS2.own (by omega) (UW _) gV))⟩,zdc (by omega)⟩;rw [tsg hkl,hyk,QR,QR,hz,hnz];show _++[rk.map (·.1)]=_++[zF y.1];rw [hrk]
  ·have hc:¬ (k:Int)<(ys.length:Int):=dF hc;obtain rfl:k=ys.length:=by omega
   have hz2:zs.map (fun z=>z.1.map (·.1))=m.wr.map zF:=by
    rw [Qx] at hz;rw [hz,<- hM.e3,UH];rfl
   have hsz2:xs.map (·.1.length)++zs.map (·.1.length)=zM m:=by
    rw [zkE hM.e2,zjj hz2];rfl
   rw [hsz2] at hS ⊢;exact⟨((zs,pr,cr),ps,cs),(cvE rfl rfl),hS,hz2,hbZ⟩
 clear hS hbX;rintro⟨⟨zs,pr,cr⟩,ps,cs⟩ V ⟨hS,hz,hbV⟩;dsimp only at hS hz ⊢;have hVs:=hbV.size;have hMV:=hMW.same fun k hk=>hbV.block k (hRW k hk);have fxV:=zb hbV fxW;have hsl1:(zM m).length<=1000:=by
  unfold zM;rw [lap,QN,QN];omega
 have hsl2:∀ n∈zM m,n<=1000000:=fun n hn=>by
  unfold zM at hn;rcases QS.1 hn with hn | hn
  ·obtain⟨r,hr,rfl⟩:=UJ.1 hn;have:=(hB.rs r hr).2.1;omega
  ·obtain⟨w,hw,rfl⟩:=UJ.1 hn;have:=(hB.wr w hw).2.1;omega
 refine cmo zn9 ?_;rintro e V1 ⟨rfl,fo,sV1,hbV1⟩;have hI:=zqR fo (hS.own.row.below hbV1) (fun a ha=>by have:=(zq hS.own ha).2.1;omega) hsl1 hsl2;obtain⟨Kp,hKp⟩:∃ Kp:(Nat->Prop)->Wd->Prop,Kp=fun F Y=>V1.heap.size<=Y.heap.size/\∀ k,k<V.heap.size->(Rd k\/W.heap.size<=k)->Y.heap[k]?=V.heap[k]?/\¬ F k:=⟨_,rfl⟩;have hF0:∀ k,F0 k->k<W.heap.size:=fun k hk=>(hJ.lt _ _ _ _ h0 hk).1;have hLV:=hlt hS.fL;have hRV:=hlt hS.fR;have hb1:Bw W V1:=hbV.trans (hbV1.mono hVs);refine zcL (zbe _) rfl (lb := #[At0 V.heap.size]) rfl rfl hI (UW _) (fun k hk=>⟨?_,rfl⟩) (fun pre vs W ⟨l,q,_,h,_⟩=>by rw [h];rfl) (by decide)
  F0 (fun pre F Y=>J (pre.map (zT m)) F Y/\Kp F Y) (fun _ _ _ _=>False) (fun k hk=>?_) ⟨?_,?_⟩ (fun ex=>⟨fun _ _ _ _ h=>h.elim,fun _ _ _ _ h=>h.elim⟩) ⟨hJ.step _ _ _ _ h0 (.below hb1),?_⟩ ?_ ?_ ?_
 ·rcases hk with (rfl | ⟨a,ha,rfl⟩) | h
  ·omega
  ·have:=(zq hS.own ha).2.1;omega
  ·exact h.elim
 ·rcases hk with rfl | ⟨a,ha,rfl⟩
  ·intro h;have:=hF0 _ h;omega
  ·intro h;have:=hF0 _ h;have:=(zq hS.own ha).1;omega
 ·rintro pre F A C ⟨hj,hk⟩ hs;rw [hKp] at hk ⊢;have hss:=hs.size;exact⟨hJ.step _ _ _ _ hj (hs.mono (by omega)),UM hk.1 hss,fun k h1 h2=>⟨(hs.same k (by have:=hk.1;omega) (.inl ⟨by omega,fun h=>h⟩)).trans (hk.2 k h1 h2).1,(hk.2 k h1 h2).2⟩⟩
 ·rintro pre F A k ⟨hj,_⟩ hk;exact hJ.lt _ _ _ _ hj hk
 ·rw [hKp];refine⟨UW _,fun k h1 h2=>⟨hbV1.block k h1,fun h=>?_⟩⟩;rcases h2 with h2 | h2
  ·exact hrf k h2 h
  ·have:=hF0 k h;omega
 ·rintro yl2 pre ds vs F Y hyl hpre hJ0 ⟨l,qd,hlast,rfl,hsl,hcel⟩ hfy ⟨lo,hlo⟩;have hdx:ds=l:=by simpa using hlast
  subst hdx;refine⟨rfl,F,KeepsG.refl _ _,hJ0,?_⟩;rintro O Y2 hY2 ⟨hj,hkp⟩;rw [hKp] at hkp;obtain⟨hY2s,hkp⟩:=hkp;have hkq:=hkp;have hslY:SlR zw Y2 qd ds:=by
   rw [hY2];refine qV hsl fun a ha=>zg fun e=>?_;obtain⟨cur,hcur⟩:=hcel a ha;rw [e,hlo] at hcur
   cases hcur
  obtain⟨hdl,hdlt⟩:=zaE (hpre.subset (JO _ (KB.2 rfl)));have hdl2:ds.length=m.rs.length+m.wr.length:=by
   rw [hdl];unfold zM;rw [lap,QN,QN]
  have hMY:MixM Rd Y2 b o m q c p1 p2 p3 c1 c2 c3 xs ys:=hMV.same fun k hk=>(hkp k (by have:=hRW k hk;omega) (.inl hk)).1;have fxY:=(hkp bx (by have:=hRW bx hbx;omega) (.inl hbx)).1.trans fxV;have fLY:=(hkp L hLV (.inr (by omega))).1.trans hS.fL;have fRY:=(hkp R hRV (.inr (by omega))).1.trans hS.fR;have kR:∀ {α:Type} {E:Enc α} {T cc:Nat} {r:OA} {ll:List α},OwnS E T W.heap.size V r cc ll->OwnS E T W.heap.size Y2 r cc ll:=fun {α E T cc r ll} h=>h.same fun a ha=>(hkp _ (zq h ha).2.1 (.inr (zq h ha).1)).1;have rkY:=kR hS.rk;have n1Y:=fun z hz=>kR (hS.n1 z hz);have n2Y:=fun z hz y hy=>kR (hS.n2 z hz y hy);clear hkp hlo hcel hsl;have hbY:b<Y2.heap.size:=by have:=hRW b hM.db;omega
  refine⟨_,zc (za fxY) (i:=0) rfl,?_⟩;have hbase:zx Y2 ⟨b,o,none⟩ (exC m.base q c):=by
   have:=zG (n:=0) (m:=333) hMY.cells;rw [Um,Jh (by rw [zC];decide),JH (by rw [zC];decide)] at this;exact this
  refine⟨exC m.base q c,zC _ _ _,hbase,hbY,?_⟩;obtain⟨M,hMM⟩:=nm (Y2.heap.size);refine zn (X:=Y2) (v := .agg (exC m.base q c).toArray) k55 (zC _ _ _) zX (zbf _ _ _) fun Z hbZ fZ sZ=>?_;have fZ:ExH Z Y2.heap.size m.base q c:=fZ;rw [<- hMM] at fZ ⊢;refine⟨_,zc (za fZ) (i:=0) rfl,cmo (zhU (hMY.ev.below hbZ) (by omega) hMY.qn) ?_⟩;rintro e Z2 ⟨⟨q1,k1,rfl,oE⟩,hbZ2⟩;refine zk k43 (zb hbZ2 fZ) (o:=0+0) (v := .slice q1 m.base.ev.length k1) rfl rfl (by rw [zC];decide) rfl fun S fS gS sS=>?_;rw [show 0+0=0 from rfl,zrF] at fS;have hMZ2:M<Z2.heap.size:=by have:=hbZ2.size;omega
  have hbS:Bw Y2 S:=((zst hbZ hbZ2)).trans (zi gS (by omega) (by omega));have oES:OwnS evE 60 Y2.heap.size S q1 k1 m.base.ev:=qa (oE.lower hbZ.size) (zb hbZ2 fZ) (by decide) gS;clear oE gS sS fZ hbZ hbZ2;have tMY:∀ {S:Wd},Bw Y2 S->MixM Rd S b o m q c p1 p2 p3 c1 c2 c3 xs ys:=fun {S} hb=>hMY.same fun k hk=>hb.block k (by have:=hRW k hk;omega);have hxlen:=hxl;refine⟨_,zc (za (zb hbS fxY)) (i:=0) rfl,_,zef (tMY hbS).cells (i:=0) rfl,?_⟩;refine⟨Nat,fun k=>⟨[(1,At0 bx),(2,At0 L),(6,At0 R),(10,.slice qd ds.length ds.length),(11,At0 M),(67,.slice p1 m.rs.length c1),(68,i64 m.rs.length),(69,i64 (k:Nat))],[]⟩,
   fun k Z=>k<=m.rs.length/\ExH Z M { m.base with rf:=⟨m.base.rf.n,rfF (m.rs.take k) ds m.base.rf.to⟩ } q1 k1/\OwnS evE 60 Y2.heap.size Z q1 k1 m.base.ev/\Bw Y2 Z,fun k=>m.rs.length-k,0,
   (cvE rfl rfl),⟨UZ _,fS,oES,hbS⟩,?_⟩
  clear fS oES hbS;rintro k Z ⟨hk,fZ,oE,hbZ⟩;refine biE (fun hc=>?_) fun hc=>?_
  ·have hc:(k:Int)<(m.rs.length:Int):=dT hc;have hkl:k<m.rs.length:=by omega
   have hZM:=tMY hbZ;have hZs:=hbZ.size;obtain⟨⟨r,s⟩,hrs⟩:∃ x,m.rs[k]=x:=⟨_,rfl⟩;obtain⟨hr48,hs1,hs48⟩:=hB.rs (r,s) (by rw [<- hrs];exact gM hkl);dsimp only at hr48 hs1 hs48;have hkx:k<xs.length:=by omega
   obtain⟨y,hyk⟩:∃ y,xs[k]=y:=⟨_,rfl⟩;have hym:y∈xs:=by rw [<- hyk];exact gM hkx
   have hys:y.1=s:=by
    have h1:(xs.map (·.1))[k]?=some y.1:=(by rw [KV,gE hkx,hyk];rfl);rw [hM.e2,KV,gE hkl,hrs] at h1;exact (Uf h1).symm
   obtain⟨d,hd⟩:∃ d,ds[k]?=some d:=⟨_,gE (by omega)⟩;have hkd:k<ds.length:=by omega
   have hde:ds[k]=d:=by rw [gE hkd] at hd;exact Uf hd
   have hdlt2:d<y.1.length:=by
    refine hdlt k _ d ?_ hd;unfold zM;rw [Jr (by rw [QN];exact hkl),KV,gE hkl,hrs,hys];rfl
   have hdlt3:d<s.length:=by rw [<- hys];exact hdlt2
   obtain⟨t,ht⟩:∃ t,y.1[d]=t:=⟨_,rfl⟩;have hts:s[d]=t:=by
    have h1:y.1[d]?=some t:=(by rw [gE hdlt2,ht]);rw [hys,gE hdlt3] at h1;exact Uf h1
   have ht48:t<48:=hs48 t (by rw [<- hts];exact gM hdlt3);have hgt:s.getD (ds.getD k 0) 0=t:=by
    rw [gDe,gDe,hd];show (s[d]?).getD 0=t;rw [gE hdlt3,hts];rfl
   have htk:rfF (m.rs.take (k+1)) ds m.base.rf.to=upd (rfF (m.rs.take k) ds m.base.rf.to) t (rfF (m.rs.take k) ds m.base.rf.to t|||2^r):=by
    rw [tsg hkl,hrs,zjf,Qv,Ua hk,hgt]
   obtain⟨G,hG⟩:=nm (rfF (m.rs.take k) ds m.base.rf.to);have hGw:zV G:=by
    rw [hG];exact zlD (ds:=[]) hB.rf fun r hr=>(hB.rs r (Ka hr)).1
   rw [<- hG] at fZ htk;obtain⟨A,T,hA,hE⟩:=zk3 { m.base with rf:=⟨m.base.rf.n,G⟩ } q1 k1;have hRel:RelAt Z M 50 55 A T ⟨m.base.rf.n,G⟩:=⟨hA,by rw [<- hE];exact fZ⟩;have hr1:k<(m.rs.map (·.1)).length:=by rw [QN];exact hkl
   obtain⟨b1,o1,hp1,hl1,hat1⟩:=hZM.r1.at hr1;obtain⟨b2,o2,hp2,hl2,hat2⟩:=hZM.r2.at hkx;obtain⟨b3,o3,hp3,hl3,hat3⟩:=(hZM.n2 y hym).at hdlt2;have hslZ:=hslY.below hbZ;obtain⟨b4,o4,hp4,hl4,hat4⟩:=hslZ.at hkd;have e1:some (Value.slice p1 m.rs.length c1)=some (Value.slice (some ⟨b1,o1,none⟩) m.rs.length c1):=by rw [hp1]
   subst hp1;subst hp2;subst hp4;refine⟨k,rfl,hkl,i64 r,by have:=zc (hat1 k hr1) (i:=0) (v:=i64 r) (by rw [Qr,hrs];rfl);exact this,?_⟩;have dZ:Bw Z Z.drew:=(Gb _ _).drew;refine DrawE.ord [23] [0,1,2,3,4,5,6,7,8,9,10,11,12,13,14,15,16,17,18,19,20,21,22,23] (by kernel_rfl) ⟨_,zc (za (hdr (zb hbZ fxY))) (i:=0) rfl,_,zef (hZM.same (X:=Z.drew) fun _ _=>rfl).cells (i:=1) rfl,k,rfl,hkx,slV y,by have:=zc (zm dZ (hat2 k hkx)) (i:=0) (v:=slV y) (by rw [hyk];rfl);exact this,k,rfl,hkd,i64 d,by have:=zc (zm dZ (hat4 k hkd)) (i:=0) (v:=i64 d) (by rw [hde];rfl);exact this,?_⟩;unfold slV;rw [hp3];refine⟨d,rfl,hdlt2,i64 t,by have:=zc (zm dZ (hat3 d hdlt2)) (i:=0) (v:=i64 t) (by rw [ht];rfl);exact this,t,rfl,ht48,s64 (G t),(hRel.same (Y:=Z.drew) rfl).cell ht48,by omega,_,zat (e:=r) (by omega),_,za7 (hGw t ht48) (qg (by omega)),t,rfl,ht48,zk k45 (hRel.same (Y:=Z.drew) rfl).cells (o:=50+1+t*1) (v:=s64 (G t|||2^r)) rfl rfl (by rw [hRel.len];omega) rfl fun S fS gS sS=>?_⟩;rw [hRel.set ht48] at fS;have gS2:Z.grownBy S (some M):=zd (zf dZ) gS;refine nxI (by omega) ⟨k+1,(cvE rfl rfl),⟨hkl,?_,qa oE fZ (by decide) gS2,hbZ.trans (zi gS2 hZs (by omega))⟩,zdc (by omega)⟩;rw [htk];have e5:=hE ⟨m.base.rf.n,upd G t (G t|||2^r)⟩;show S.heap[M]?=some (.cells (exC { m.base with rf:=⟨m.base.rf.n,upd G t (G t|||2^r)⟩ } q1 k1).toArray _ _);exact fS.trans (by rw [<- e5])
  have hc:¬ (k:Int)<(m.rs.length:Int):=dF hc;obtain rfl:k=m.rs.length:=by omega
  rw [Qx] at fZ;obtain⟨RF,hRF⟩:∃ RF:ExD,RF={ m.base with rf:=⟨m.base.rf.n,rfF m.rs ds m.base.rf.to⟩ }:=⟨_,rfl⟩;rw [<- hRF] at fZ;have hRFe:RF.ev=m.base.ev:=by rw [hRF]
  have hRFc:RF.co=m.base.co:=by rw [hRF]
  have hRFm:RF.mem=m.base.mem:=by rw [hRF]
  obtain⟨dl,hdle⟩:=nm (ds.drop m.rs.length);have hdll:dl.length=m.wr.length:=by rw [hdle,Qu];omega
  have hslD:SlR zw Y2 (je qd ds.length m.rs.length 1) dl:=by
   have:=hslY.sub (cap:=ds.length) (lo:=m.rs.length) (hi:=ds.length) (by omega) (UW _) (UW _);rw [JH (by rw [Qu];exact UW _),<- hdle] at this;exact this
  refine⟨_,zc (za (zb hbZ fxY)) (i:=0) rfl,_,zef (tMY hbZ).cells (i:=0) rfl,m.rs.length,rfl,by omega,?_⟩;obtain⟨qD,hqD⟩:=nm (je qd ds.length m.rs.length 1);rw [<- hqD] at hslD ⊢;have hdn:ds.length-m.rs.length=dl.length:=by omega
  rw [hdn];obtain⟨Rs,hRs⟩:=nm (m.wr.map zF);have hRsl:Rs.length=m.wr.length:=by rw [hRs,QN]
  have hzl:zs.length=m.wr.length:=by have:=Gj List.length hz;simpa using this
  have hRsb:∀ R∈Rs,∀ k∈R,k≠[]/\k.length<=48/\∀ a∈k,a<m.base.ev.length:=fun R hR k hk=>by
   rw [hRs] at hR;obtain⟨w,hw,rfl⟩:=UJ.1 hR;exact (hB.wr w hw).2.2 k hk
  refine⟨Nat,fun l=>⟨[(1,At0 bx),(2,At0 L),(6,At0 R),(11,At0 M),(104,.slice qD dl.length dl.length),(105,i64 dl.length),(106,i64 (l:Nat))],[]⟩,
   fun l Z=>l<=dl.length/\ExH Z M { RF with co:=(coG m.base.ev 0 (Rs.take l) dl (RF.co,RF.mem)).1,mem:=(coG m.base.ev 0 (Rs.take l) dl (RF.co,RF.mem)).2 } q1 k1/\OwnS evE 60 Y2.heap.size Z q1 k1 m.base.ev/\Bw Y2 Z,fun l=>dl.length-l,0,
   (cvE rfl rfl),⟨UZ _,fZ,oE,hbZ⟩,?_⟩
  clear fZ oE hbZ;rintro l Z ⟨hl,fZ,oE,hbZ⟩;obtain⟨P,hP⟩:=nm (coG m.base.ev 0 (Rs.take l) dl (RF.co,RF.mem));rw [<- hP] at fZ;have hZs:=hbZ.size;have hPw:zV P.1.to:=by
   rw [hP];refine zmb (by rw [hRFc];exact hB.co) fun R hR k hk a ha=>?_;have:=(hRsb R (Ka hR) k hk).2.2 a ha;omega
  refine biE (fun hc=>?_) fun hc=>?_
  ·have hc:(l:Int)<(dl.length:Int):=dT hc;have hll:l<dl.length:=by omega
   have hlz:l<zs.length:=by omega
   have hlR:l<Rs.length:=by omega
   obtain⟨z,hzk⟩:∃ z,zs[l]=z:=⟨_,rfl⟩;have hzm:z∈zs:=by rw [<- hzk];exact gM hlz
   have hzR:Rs[l]?=some (z.1.map (·.1)):=by
    rw [hRs,<- hz,KV,gE hlz,hzk];rfl
   have hzRm:z.1.map (·.1)∈Rs:=JZ hzR;obtain⟨d,hd⟩:∃ d,dl[l]=d:=⟨_,rfl⟩;have hdd:dl[l]?=some d:=by rw [gE hll,hd]
   have hdz:d<z.1.length:=by
    refine hdlt (m.rs.length+l) _ d ?_ (by rw [hdle,Kx] at hdd;exact hdd);unfold zM;rw [Jn (by rw [QN];omega),QN,Jz];have:=hzR;rw [hRs,KV] at this;rw [KV]
    cases hw:m.wr[l]? with
    | none=>rw [hw] at this;cases this
    | some w =>
     rw [hw] at this;have h2:zF w=z.1.map (·.1):=Uf this;show some (zF w).length=_;rw [h2,QN]
   obtain⟨y,hyk⟩:∃ y,z.1[d]=y:=⟨_,rfl⟩;have hym:y∈z.1:=by rw [<- hyk];exact gM hdz
   obtain⟨hy0,hy48,hyev⟩:=hRsb _ hzRm y.1 (UJ.2 ⟨y,hym,rfl⟩);have hgy:(z.1.map (·.1)).getD d []=y.1:=by
    rw [gDe,KV,gE hdz,hyk];rfl
   obtain⟨hlR2,hzR2⟩:=Js.1 hzR;have htk:coG m.base.ev 0 (Rs.take (l+1)) dl (RF.co,RF.mem)=(j7 y.1 P.1,upd P.2 l (zdu m.base.ev y.1)):=by
    rw [tsg hlR,hzR2,zj2,<- hP,Qv,Ua (by omega),UR];rw [show dl.getD l 0=d by rw [gDe,hdd];rfl,hgy]
   obtain⟨bD,oD,hpD,hlD,hatD⟩:=(hslD.below hbZ).at hll;obtain⟨bR,oR,hpR,hlR0,hatR⟩:=(rkY.below hbZ).row.at hlz;obtain⟨bz,oz,hpz,hlz0,hatz⟩:=((n1Y z hzm).below hbZ).row.at hdz;have hyrow:=((n2Y z hzm y hym).below hbZ).row;have hylt:=fun a ha=>(zq (n2Y z hzm y hym) (a:=a) ha).2.1;subst hpD;subst hpR;refine⟨l,rfl,hll,i64 d,by have:=zc (hatD l hll) (i:=0) (v:=i64 d) (by rw [hd];rfl);exact this,_,zc (za (zb hbZ fRY)) (i:=0) rfl,l,rfl,hlz,.slice z.2.1 z.1.length z.2.2,by have:=zc (hatR l hlz) (i:=0) (v := .slice z.2.1 z.1.length z.2.2) (by rw [hzk];rfl);exact this,?_⟩;rw [hpz];refine⟨d,rfl,hdz,slV y,by have:=zc (hatz d hdz) (i:=0) (v:=slV y) (by rw [hyk];rfl);exact this,?_⟩;obtain⟨A,T,hA,hE⟩:=ziy { RF with co:=P.1,mem:=P.2 } q1 k1;have hRel:RelAt Z M 99 55 A T P.1:=⟨hA,by rw [<- hE];exact fZ⟩;refine cmo (zol hRel hPw hyrow (fun a ha=>by have:=hylt a ha;omega) (by omega) (fun a ha=>by have:=hyev a ha;omega)) ?_;rintro e V2 ⟨rfl,hRel2,gV2⟩;have fV2:ExH V2 M { RF with co:=j7 y.1 P.1,mem:=P.2 } q1 k1:=by
    have e5:=hE (j7 y.1 P.1);show V2.heap[M]?=some (.cells (exC { RF with co:=j7 y.1 P.1,mem:=P.2 } q1 k1).toArray _ _);exact hRel2.cells.trans (by rw [<- e5])
   have hbV2:Bw Y2 V2:=hbZ.trans (zi gV2 hZs (by omega));have oE2:=qa oE fZ (by decide) gV2;have hyr2:=((n2Y z hzm y hym).below hbV2).row;obtain⟨j,hj2⟩:∃ j,j+1=y.1.length:=⟨y.1.length-1,by have:=List.length_pos_iff.2 hy0;omega⟩;have hjl:j<y.1.length:=by omega
   obtain⟨b6,o6,hp6,hl6,hat6⟩:=hyr2.at hjl;obtain⟨t,ht⟩:∃ t,y.1[j]=t:=⟨_,rfl⟩;have htev:t<m.base.ev.length:=hyev t (by rw [<- ht];exact gM hjl);have hlast:y.1.getLastD 0=t:=by
    rw [List.getLastD_eq_getLast?,List.getLast?_eq_getElem?,show y.1.length-1=j by omega,gE hjl,ht];rfl
   obtain⟨b7,o7,hp7,hl7,hat7⟩:=oE2.row.at htev;have hlV:zdu m.base.ev y.1=(m.base.ev[t]).v:=by
    show (m.base.ev.getD (y.1.getLastD 0) ev0).v=_;rw [hlast,gDe,gE htev];rfl
   have dV:Bw V2 V2.drew:=(Gb _ _).drew;have hl6':l<6:=by omega
   unfold slV;rw [hp6];refine DrawE.ord [15] [0,1,2,3,4,5,6,7,8,9,10,11,12,13,14,15] (by kernel_rfl) ⟨.slice q1 m.base.ev.length k1,by have:=zc (za (hdr fV2)) (i:=0) (v := .slice q1 RF.ev.length k1) rfl;rw [hRFe] at this;exact this,(j:Nat),(ze (by omega)).trans (by omega),j,rfl,hjl,i64 t,by have:=zc (zm dV (hat6 j hjl)) (i:=0) (v:=i64 t) (by rw [ht];rfl);exact this,?_⟩;rw [hp7];refine⟨t,rfl,htev,u8 (m.base.ev[t]).v,by have:=zc (zm dV (hat7 t htev)) (i:=3) (v:=u8 (m.base.ev[t]).v) rfl;exact this,l,rfl,hl6',zk k5 (hdr fV2) (o:=327+l*1) (v:=u8 (m.base.ev[t]).v) rfl rfl (by rw [zC];omega) rfl fun S fS gS sS=>?_⟩;rw [UX,zqd _ _ _ hl6'] at fS;have gS2:V2.grownBy S (some M):=zd (zf dV) gS;refine nxI (by omega) ⟨l+1,(cvE rfl rfl),⟨hll,?_,by rw [<- hp7];exact qa oE2 fV2 (by decide) gS2,hbV2.trans (zi gS2 hbV2.size (by omega))⟩,zdc (by omega)⟩;rw [htk,hlV,<- hp7];exact fS
  have hc:¬ (l:Int)<(dl.length:Int):=dF hc;obtain rfl:l=dl.length:=by omega
  rw [JH (by omega)] at hP;have hcand:zT m ds={ RF with co:=P.1,mem:=P.2 }:=by
   rw [hP,hRF,hdle,hRs];rfl
  rw [<- hcand] at fZ;have oE:OwnS evE 60 Y2.heap.size Z q1 k1 (zT m ds).ev:=oE;refine⟨_,zc (za (zb hbZ fLY)) (i:=0) rfl,exC (zT m ds) q1 k1,zC _ _ _,za fZ,hlt fZ,?_⟩;have hjZ:=hJ.step _ _ _ _ hj (StepG.below hbZ);have hGv:∀ k,GvX [.agg (exC (zT m ds) q1 k1).toArray] k->Y2.heap.size<=k/\∃ a,q1=some a/\k=a.block:=by
   rintro k ⟨x,a,cc,he,rfl⟩;have h1:(exC (zT m ds) q1 k1).toArray=(exC x (some a) cc).toArray:=by
    have:=Jy he;exact Value.agg.inj this
   have h2:exC (zT m ds) q1 k1=exC x (some a) cc:=by simpa using h1
   have h3:Value.slice q1 (zT m ds).ev.length k1=Value.slice (some a) x.ev.length cc:=Jy h2;have h4:q1=some a:=by injection h3
   exact⟨(zq oE h4).1,a,h4,rfl⟩
  have hmp:(pre++[ds]).map (zT m)=pre.map (zT m)++[zT m ds]:=by rw [QR];rfl
  have hpm:(pre.map (zT m)++[zT m ds]) <+: zcx m:=by
   obtain⟨t,ht⟩:=hpre;refine⟨t.map (zT m),?_⟩;unfold zcx;rw [<- ht,QR,hmp]
  refine YieldR.mono (hy _ (zT m ds) [.agg (exC (zT m ds) q1 k1).toArray] F Z hjZ ⟨_,q1,k1,by simp,rfl,oE.lower (by omega)⟩ (fun k hk=>by have:=(hGv k hk).1;omega) hpm) ?_;rintro v U ⟨rfl,F',hjU,kU⟩;refine brF ?_;have kF:KeepsG F F' Y2 U:=⟨kU.os.trans hbZ.os,kU.tape.trans hbZ.tape,kU.output.trans hbZ.output,UM hbZ.size kU.size,fun k hk hf=>(kU.same k (by omega) (fun h=>h.elim hf fun h=>by have:=(hGv k h).1;omega)).trans (hbZ.block k hk),fun k hk=>by
   rcases kU.fp k hk with (h | h) | h
   ·exact .inl h
   ·exact .inr (hGv k h).1
   ·exact .inr (by omega)⟩
  refine⟨F',⟨by rw [hmp];exact hjU,?_⟩,kF⟩;rw [hKp];refine⟨UM hY2s kF.size,fun k h1 h2=>?_⟩;obtain⟨h3,h4⟩:=hkq k h1 h2;refine⟨(kF.same k (by omega) h4).trans h3,fun h=>?_⟩;rcases kF.fp k h with h | h
  ·exact h4 h
  ·omega
 ·rintro D F Y hD hfD ⟨hj,hk⟩ hdef;refine⟨_,rfl,hdef,⟨_,rfl⟩,F,?_⟩;show J ((z7 (zM m)).map (zT m)) F _;exact hJ.step _ _ _ _ hj (.put (by omega) hfD _)
 ·rintro D ex pre F Y hD hfD hpre h;exact h.elim
end
end Go.Proofs.YtpalcnbhkigagaaGreatDoor
namespace Go.Sei
def isR (x:ExD) (i:Nat):Bool:=decide ((evA x i).k=1)
def isW (x:ExD) (i:Nat):Bool:=decide ((evA x i).k=2)
def z3 (r:RelD) (a b:Nat):Bool:=(r.to a).testBit b
def zkF (n:Nat) (p:Nat->Bool):Nat:=(List.range n).foldl (fun s b=>if p b=true then s|||2^b else s) 0
def zlN (n:Nat) (p:Nat->Nat->Bool):RelD:=zby n fun a=>zkF n (p a)
def frM (x:ExD):RelD:=(zsi (zN x.rf) x.co).1
theorem znn {p:Nat->Bool} {n k:Nat} (hk:k<n) (h:p k=false):(List.range n).all p=false:=by
 rw [KN];exact⟨k,Uo.2 hk,by rw [h];decide⟩
theorem zo9 {p:Nat->Bool} {k:Nat} (h:(List.range k).all p=true) (hp:p k=true):(List.range (k+1)).all p=true:=by
 rw [QW,QJ,h];simp [hp]
theorem za0 {a j:Nat}:(2^a).testBit j=decide (j=a):=by
 rw [Kq];exact QG.2 ⟨fun e=>e.symm,fun e=>e.symm⟩
theorem zlI {a:Nat}:∀ (l:List Nat) (f:Nat->Nat) (b j:Nat),((l.foldl (fun f b=>upd f b (f b|||2^a)) f) b).testBit j=((f b).testBit j||(decide (b∈l)&&decide (j=a)))
 | [],f,b,j=>by simp
 | x::l,f,b,j=>by
  rw [QM,zlI l];by_cases hx:b=x
  ·subst hx;rw [zK,Ur,za0];by_cases hl:b∈l <;> by_cases hj:j=a <;> simp [hl,hj]
  ·rw [qr _ _ hx];simp [hx]
theorem zhQ (tf:Nat->Nat):∀ (n b j:Nat),(zaF tf n b).testBit j=(decide (j<n)&&decide (b∈els (tf j)))
 | 0,b,j=>by
  show (0:Nat).testBit j=_;simp
 | n+1,b,j=>by
  have ih:=zhQ tf n b j;unfold zaF at ih ⊢;rw [QW,KU,QM,List.foldl_nil,zlI,ih];by_cases hj:j=n
  ·subst hj;simp
  ·by_cases h2:j<n
   ·rw [Us h2,Us (by omega:j<n+1),Uh hj];simp
   ·rw [Uh h2,Uh (by omega:¬ j<n+1),Uh hj];simp
theorem zkg {r:RelD} (h:okR r=true) {b j:Nat}:((zN r).to b).testBit j=(decide ((j:Int)<r.n)&&decide (b∈els (r.to j))):=by
 have hn:0<=r.n:=by
  unfold okR at h;rw [bAT,dE] at h;exact h.1
 have e:zN r=⟨r.n,zaF r.to r.n.toNat⟩:=Gp h;rw [e];show (zaF r.to r.n.toNat b).testBit j=_;rw [zhQ];congr 1;exact QG.2 (by omega)
theorem ziE {s:Nat} (h0:s≠0) (h:s<2^64):ctz s∈els s:=by
 rw [(jN h0 h).1];exact KA
end Go.Sei
namespace Go.Proofs.YtpalcnbhkigagaaGreatDoor
open Go.Vc Go.RowKit Go.Sei
section
variable {b c:Nat} {x:ExD} {q:OA} {w:Wd}
theorem zdO {k:Nat}:x.ev.getD k ev0=evA x k:=rfl
theorem zmI (fx:ExH w b x q c) (hv:ExW w x q) (hn:x.rf.n=x.ev.length) (hok:okR x.rf=true) (hT:Tz64M w):CB 33 #[At0 b] w (.bool (zaf x)):=by
 refine jf 72 [At0 b] (.s .p (.c .p .p)) Tryz.func33 ?_;obtain⟨from_,hfr⟩:∃ f,f=zN x.rf:=⟨_,rfl⟩;have hn20:=hv.n;refine⟨Nat,fun F=>⟨[(0,At0 b),(3,At0 F)],[]⟩,fun F X=>zaX X F from_/\zV from_.to/\w.heap.size<=F/\Bw w X,?_,?_⟩
 ·refine⟨zj x.rf,zh _,?_,hlt fx,?_⟩
  ·have h:=zG (n:=50) (m:=49) (za fx);obtain⟨A,T,hA,hE⟩:=zk3 x q c;have e:=hE x.rf;have e2:(exC x q c).drop 50=zj x.rf++T:=by
    show (exC { x with rf:=x.rf } q c).drop 50=_;rw [e,<- hA,Ul]
   have e3:((exC x q c).toArray.toList.drop 50).take 49=zj x.rf:=by
    show ((exC x q c).drop 50).take 49=_;rw [e2,Jh (by rw [zh];decide),JH (by rw [zh];decide)]
   rw [e3] at h;exact h
  refine cmo (zlq hv.rf hT) ?_;rintro e Y ⟨rfl,hbY,hwr⟩;refine zn (X:=Y) (v := .agg (zj (zN x.rf)).toArray) k48 (zh _) (by kernel_rfl) (qm _) fun Z hbZ fZ sZ=>?_;rw [<- hfr] at fZ hwr;exact⟨Y.heap.size,(cvE rfl rfl),fZ,hwr,hbY.size,(zst hbY hbZ)⟩
 rintro F X ⟨fF,hwr,hF,hbX⟩;have bits:∀ i j,(from_.to i).testBit j=true->j<x.ev.length:=fun i j h=>by
  rw [hfr,zkg hok,bAT,dE,hn] at h;omega
 refine⟨_,zc (za (zb hbX fx)) (i:=0) rfl,Nat,fun k=>⟨[(0,At0 b),(3,At0 F),(18,.slice q x.ev.length c),(19,i64 x.ev.length),(20,i64 (k:Nat))],[]⟩,fun k X=>k<=x.ev.length/\(List.range k).all (fun i=>zbG x (from_.to i) (evA x i))=true/\zaX X F from_/\Bw w X,fun k=>x.ev.length-k,0,(cvE rfl rfl),⟨UZ _,rfl,fF,hbX⟩,?_⟩;have hall:zaf x=(List.range x.ev.length).all fun i=>zbG x (from_.to i) (evA x i):=by rw [hfr];rfl
 clear fF hbX;rintro k X ⟨hk,hgo,fF,hbX⟩;dsimp only;have hXs:=hbX.size;refine biE (fun hc=>?_) fun hc=>?_
 ·have hc:(k:Int)<(x.ev.length:Int):=dT hc;have hkl:k<x.ev.length:=by omega
  obtain⟨bq,oq,hqe,hb,hat⟩:=zcr (hv.ev.below hbX) hkl;rw [zdO] at hat;obtain⟨e,he⟩:=nm (evA x k);obtain⟨s,hs⟩:=nm (from_.to k);rw [<- he] at hat;have hs64:s<2^64:=by rw [hs];exact hwr k (by omega)
  have eq0:some (Value.slice q x.ev.length c)=some (Value.slice (some ⟨bq,oq,none⟩) x.ev.length c):=by rw [hqe]
  subst hqe;refine⟨k,rfl,hkl,evE.enc e,rfl,hat,hb,zn (X:=X) (v := .agg (evE.enc e).toArray) k60 rfl rfl (Qk.2 fun u hu=>evE.one e u hu) fun Y hbY fY sY=>?_⟩;have fY:Y.heap[X.heap.size]?=some (.cells (evE.enc e).toArray 60 (0,0)):=fY;have hbY2:=hbX.trans (hbY.mono hXs);have no:∀ {Z:Wd},Bw w Z->zbG x s e=false->(Ending.returned (.bool false)=Ending.returned (.bool (zaf x))/\Bw w Z):=fun {Z} hb h=>⟨rb (by
   rw [hall];symm;exact znn hkl (by rw [<- hs,<- he];exact h)),hb⟩
  have yes:∀ {Z:Wd},zaX Z F from_->Bw w Z->zbG x s e=true->(k+1<=x.ev.length/\(List.range (k+1)).all (fun i=>zbG x (from_.to i) (evA x i))=true/\zaX Z F from_/\Bw w Z):=fun {Z} f hb h=>⟨hkl,zo9 hgo (by rw [<- hs,<- he];exact h),f,hb⟩;refine⟨k,rfl,by omega,?_⟩;refine⟨s64 s,by rw [hs];exact zd4 (zb hbY fF) (by omega),u8 e.k,zc (za fY) (i:=1) rfl,biE (fun h=>?_) fun h=>?_⟩
  ·have h:¬ e.k=1:=by
    have h:(!decide ((e.k.toNat:Int)=((1:UInt8).toNat:Int)))=true:=h;intro e2;rw [e2] at h;simp at h
   have hone:zbG x s e=decide (s=0):=Gn h;refine biE (fun h2=>?_) fun h2=>?_
   ·have h2:¬ s=0:=by
     have h2:(!decide ((s:Int)=0))=true:=h2;intro e2;rw [e2] at h2
     cases h2
    exact no hbY2 (by rw [hone];exact Uh h2)
   ·have h2:s=0:=by
     have h2:(!decide ((s:Int)=0))=false:=h2;have h2:(s:Int)=0:=(by simpa using h2);omega
    exact nxI (by omega) ⟨k+1,(cvE rfl rfl),yes (zb hbY fF) hbY2 (by rw [hone];exact Us h2),zdc (by omega)⟩
  have h:e.k=1:=by
   have h:(!decide ((e.k.toNat:Int)=((1:UInt8).toNat:Int)))=false:=h;exact ji.1 (by simpa using h)
  refine cmo (zbh hs64 (hT.below hbY2)) ?_;rintro e2 Z ⟨rfl,hbZ⟩;have hYs:=hbY2.size;have hbZ2:=hbY2.trans (hbZ.mono hYs);have fZ:=zb hbZ fY;have fFZ:=zb hbZ (zb hbY fF);by_cases hs0:s=0
  ·have e1:(els s).isEmpty=true:=by rw [hs0];rfl
   rw [e1];refine brT (brT (no hbZ2 ?_));unfold zbG;rw [Gp h,Gp hs0]
  obtain⟨hd,hem⟩:=zca hs0 hs64;rw [hd,hem];have hmem:=ziE hs0 hs64;have hbit:s.testBit (ctz s)=true:=(zah.1 hmem).2;have hwl:ctz s<x.ev.length:=bits k _ (by rw [<- hs];exact hbit);refine brF ⟨by omega,((2^ctz s:Nat):Int),zat (e:=ctz s) (by omega),biE (fun h2=>?_) fun h2=>?_⟩
  ·have h2:¬ s=2^ctz s:=by
    have h2:(!decide ((s:Int)=((2^ctz s:Nat):Int)))=true:=h2;intro e2;rw [<- e2] at h2;simp at h2
   refine no hbZ2 ?_;unfold zbG;rw [Gp h,Gn hs0,Gn h2]
  have h2:s=2^ctz s:=by
   have h2:(!decide ((s:Int)=((2^ctz s:Nat):Int)))=false:=h2;have h2:(s:Int)=((2^ctz s:Nat):Int):=by simpa using h2
   exact Uz h2
  obtain⟨t,ht⟩:=nm (ctz s);rw [<- ht] at hwl h2 ⊢;obtain⟨bq2,oq2,hqe2,hb2,hat2⟩:=zcr (hv.ev.below hbZ2) hwl;rw [zdO] at hat2;obtain⟨f,hf⟩:=nm (evA x t);rw [<- hf] at hat2;have hone:zbG x s e=(decide (f.k=2)&&(decide (f.l=e.l)&&decide (f.v=e.v))):=by
   unfold zbG;rw [Gp h,Gn hs0,<- ht,Gp h2,<- hf]
  refine⟨_,zc (za (zb hbZ2 fx)) (i:=0) rfl,t,rfl,hwl,?_⟩;refine⟨evE.enc f,rfl,by
   simp only [Qa,Uu,Gi] at hqe2;rw [hqe2.1,hqe2.2];exact hat2,by
   simp only [Qa,Uu,Gi] at hqe2;rw [hqe2.1];exact hb2,?_⟩
  refine zn (X:=Z) (v := .agg (evE.enc f).toArray) k60 rfl rfl (Qk.2 fun u hu=>evE.one f u hu) fun V hbV fV sV=>?_;have fV:V.heap[Z.heap.size]?=some (.cells (evE.enc f).toArray 60 (0,0)):=fV;have hbV2:=zst hbZ2 hbV;have fe:=zb hbV fZ;have fFV:=zb hbV fFZ;have n8:∀ {a d:UInt8},(!decide ((a.toNat:Int)=(d.toNat:Int)))=true->¬ a=d:=fun {a d} h e2=>by
   rw [e2] at h;simp at h
  have y8:∀ {a d:UInt8},(!decide ((a.toNat:Int)=(d.toNat:Int)))=false->a=d:=fun {a d} h=>ji.1 (by simpa using h);refine⟨u8 f.k,zc (za fV) (i:=1) rfl,biE (fun h3=>?_) fun h3=>?_⟩
  ·have h3:¬ f.k=2:=n8 (d:=2) h3;exact brT (brT (no hbV2 (by rw [hone,Uh h3];rfl)))
  have h3:f.k=2:=y8 (d:=2) h3;refine⟨u8 f.l,zc (za fV) (i:=2) rfl,u8 e.l,zc (za fe) (i:=2) rfl,biE (fun h4=>?_) fun h4=>?_⟩
  ·have h4:¬ f.l=e.l:=n8 h4;exact brT (no hbV2 (by rw [hone,Uh h4,Uj,Ui]))
  have h4:f.l=e.l:=y8 h4;refine⟨u8 f.v,zc (za fV) (i:=3) rfl,u8 e.v,zc (za fe) (i:=3) rfl,biE (fun h5=>?_) fun h5=>?_⟩
  ·have h5:¬ f.v=e.v:=n8 h5;exact no hbV2 (by rw [hone,Uh h5,Ui,Ui])
  have h5:f.v=e.v:=y8 h5;exact nxI (by omega) ⟨k+1,(cvE rfl rfl),yes fFV hbV2 (by rw [hone,Us h3,Us h4,Us h5];rfl),zdc (by omega)⟩
 ·have hc:¬ (k:Int)<(x.ev.length:Int):=dF hc;obtain rfl:k=x.ev.length:=by omega
  exact⟨rb (by rw [hall];exact hgo.symm),hbX⟩
end
theorem zr5 {bx n:Nat} {w:Wd} {i:Nat} (f:w.heap[bx]?=some (.cells #[i64 (n:Nat)] 3 (0,0))) (hn:n<=1000):Calls PG 87 #[i64 (i:Nat),At0 bx] w fun e w'=>e = .returned (.bool true)/\w'.heap[bx]?=some (.cells #[i64 (n+1:Nat)] 3 (0,0))/\w.grownBy w' (some bx):=by
 refine zH 6 [i64 (i:Nat),At0 bx] Tryz.func87 ?_;exact⟨_,zc (za f) (i:=0) rfl,nxI (by omega) (zk k3 f (o:=0) (v:=i64 (n+1:Nat)) rfl rfl (by show 0<1;decide) rfl fun w' f' g' s'=>⟨rfl,f',g'⟩)⟩
theorem zjU {bs bx s:Nat} {w:Wd} (fs:w.heap[bs]?=some (.cells #[s64 s] 45 (0,0))) (fx:w.heap[bx]?=some (.cells #[i64 (0:Nat)] 3 (0,0))) (hs:s<2^64) (hT:Tz64M w) (hbx:1≠bx) :
  Calls PG 113 #[.func (.func 87) #[] #[At0 bx],At0 bs] w fun e w'=>(∃ v,e = .returned v)/\w'.heap[bx]?=some (.cells #[i64 (zbv s:Nat)] 3 (0,0))/\w.grownBy w' (some bx):=by
 refine zH 16 [.func (.func 87) #[] #[At0 bx],At0 bs] Tryz.func113 ?_;refine⟨_,zc (za fs) (i:=0) rfl,Nat×Nat,fun q=>⟨[(0,.func (.func 87) #[] #[At0 bx]),(3,s64 q.2)],[]⟩,fun q X=>X.heap[bx]?=some (.cells #[i64 (q.1:Nat)] 3 (0,0))/\q.1+zbv q.2=zbv s/\q.2<2^64/\w.grownBy X (some bx),fun q=>q.2,(0,s),(cvE rfl rfl),⟨fx,UR _,hs,z6 _ _⟩,?_⟩;rintro⟨n,r⟩ X ⟨f,hn,hr,gX⟩;dsimp only at f hn hr ⊢;have hls:=zeo s;refine biE (fun hc=>?_) fun hc=>?_
 ·have hc:(!decide ((r:Int)=0))=true:=hc;have hc:¬ (r:Int)=0:=by simpa using hc
  have hr0:r≠0:=by omega
  obtain⟨e1,e2,_,_⟩:=jN hr0 hr;have hl:zbv r=zbv (jg r)+1:=by unfold zbv;rw [e1];rfl
  have hTX:Tz64M X:=jY hT (gX.block _ (zav hT) (by simpa using hbx));refine cmo (znB hTX hr0 hr) ?_;rintro e _ ⟨rfl,rfl⟩;have hn64:n<=1000:=by unfold zbv at hn;omega
  refine cmo (zr5 f hn64) ?_;rintro e V ⟨rfl,fV,gV⟩;exact brF ⟨((r-1:Nat):Int),(zas (a:=(r:Int)-1) (by omega)).trans (by omega),((jg r:Nat):Int),zau (a:=r) (b:=r-1) hr (by omega),(n+1,jg r),(cvE rfl rfl),⟨fV,by show n+1+zbv (jg r)=_;omega,by show jg r<_;omega,zd gX gV⟩,e2⟩
 ·have hc:(!decide ((r:Int)=0))=false:=hc;have hc:(r:Int)=0:=by simpa using hc
  obtain rfl:r=0:=by omega
  have h0:zbv 0=0:=rfl;rw [h0,UL] at hn;exact⟨⟨_,rfl⟩,by rw [<- hn];exact f,gX⟩
theorem zq4 {s:Nat} {w:Wd} (hs:s<2^64) (hT:Tz64M w):CB 57 #[s64 s] w (i64 (zbv s:Nat)):=by
 refine jf 11 [s64 s] (.s .p (.c .p .p)) Tryz.func57 ?_;obtain⟨L,hL⟩:=nm (w.heap.size);refine⟨Unit,fun _=>⟨[(0,s64 s),(3,At0 L)],[]⟩,fun _ Y=>Y.heap[L]?=some (.cells #[i64 (0:Nat)] 3 (0,0))/\Y.heap.size=L+1/\Bw w Y,?_,?_⟩
 ·refine zn (X:=w) (v:=i64 0) k3 rfl rfl rfl fun Y hbY fY sY=>?_;have fY:Y.heap[w.heap.size]?=some (.cells #[i64 (0:Nat)] 3 (0,0)):=fY;exact⟨(),⟨.cons rfl (.cons (by rw [hL];rfl) .nil),rfl⟩,by rw [hL];exact fY,by rw [hL];exact sY,hbY⟩
 rintro _ Y ⟨fY,sY,hbY⟩;refine cmo zgJ ?_;rintro e _ ⟨rfl,rfl⟩;have hb2:Bw Y (Y.alloc (.cells #[s64 s] 45)):=zba _ _;have htl:=zav hT;refine cmo (zjU (zy Y _) (zb hb2 fY) hs ((hT.below hbY).below hb2) (by omega)) ?_;rintro e Z ⟨⟨v,rfl⟩,fZ,gZ⟩;exact⟨_,zc (za fZ) (i:=0) rfl,rfl,((zst hbY hb2)).trans (zi gZ (by have:=hbY.size;have:=hb2.size;omega) (by omega))⟩
def ziI (x y:Nat):Int:=if x<y then -1 else if y<x then 1 else 0
theorem zoc {x:Nat} {w:Wd}:Calls PG 86 #[i64 (x:Nat)] w fun e w'=>e = .returned (.bool false)/\w=w':=by
 refine zH 6 [i64 (x:Nat)] Tryz.func86 ?_;exact⟨rb (by simp),rfl⟩
theorem zlo {x y:Nat} {w:Wd}:Calls PG 56 #[i64 (x:Nat),i64 (y:Nat)] w fun e w'=>e = .returned (i64 (ziI x y))/\w=w':=by
 refine zH 20 [i64 (x:Nat),i64 (y:Nat)] Tryz.func56 ?_;refine cmo zoc ?_;rintro e _ ⟨rfl,rfl⟩;refine cmo zoc ?_;rintro e _ ⟨rfl,rfl⟩;refine brF (brF (biE (fun h=>?_) fun h=>?_))
 ·have h:(x:Int)<y:=dT h;exact⟨ri (by unfold ziI;rw [Gp (by omega)]),rfl⟩
 have h:¬ (x:Int)<y:=dF h;refine biE (fun h2=>?_) fun h2=>?_
 ·have h2:(y:Int)<x:=dT h2;exact⟨ri (by unfold ziI;rw [Gn (by omega),Gp (by omega)]),rfl⟩
 ·have h2:¬ (y:Int)<x:=dF h2;exact⟨ri (by unfold ziI;rw [Gn (by omega),Gn (by omega)]),rfl⟩
section
variable {b c L:Nat} {x:ExD} {q:OA} {w:Wd}
theorem zoN {X:Wd} (fx:ExH X b x q c) {i:Nat} (hi:i<48):X.cell? ⟨b,0+99+1+i*1,none⟩=some (s64 (x.co.to i)):=by
 obtain⟨A,T,hA,hE⟩:=ziy x q c;have hR:RelAt X b 99 55 A T x.co:=⟨hA,by rw [<- hE];exact fx⟩;exact hR.cell hi
theorem zrU {u v:Nat} (fx:ExH w b x q c) (fL:w.heap[L]?=some (.cells #[At0 b] 100 (0,0))) (hco:zV x.co.to) (hu:u<48) (hv:v<48) (hT:Tz64M w) :
  CB 55 #[i64 (u:Nat),i64 (v:Nat),At0 L] w (i64 (ziI (zbv (x.co.to v)) (zbv (x.co.to u)))):=by
 refine zH 23 [i64 (u:Nat),i64 (v:Nat),At0 L] Tryz.func55 ?_;refine DrawE.ord [] [0,1,2,3,4,5,6,8,9,10,11,12,13,14,7,15,16,17] (by kernel_rfl) ?_;have hd:Bw w w.drew:=(Gb _ _).drew;refine⟨_,zc (za (hdr fL)) (i:=0) rfl,v,rfl,hv,_,zoN (hdr fx) hv,_,zc (za (hdr fL)) (i:=0) rfl,u,rfl,hu,_,zoN (hdr fx) hu,cmo (zq4 (hco v hv) (hT.below hd)) ?_⟩;rintro e X ⟨rfl,hbX⟩;refine⟨hbX,cmo (zq4 (hco u hu) ((hT.below hd).below hbX)) ?_⟩;rintro e Y ⟨rfl,hbY⟩;refine⟨hbY,cmo zlo ?_⟩;rintro e _ ⟨rfl,rfl⟩;exact⟨Gb _ _,rfl,(hd.trans hbX).trans (hbY.mono hbX.size)⟩
end
theorem zgx {key:Nat->Nat} {x:Nat}:∀ (B A:List Nat),(∀ y∈B,key y<key x)->ja key (B++A) x=B++ja key A x
 | [],A,_=>rfl
 | y::B,A,h=>by
  show (if key y<key x then y::ja key (B++A) x else x::y::(B++A))=_;rw [Gp (h y KA),zgx B A fun z hz=>h z (JY _ hz)];rfl
theorem zgw {key:Nat->Nat} {x:Nat}:∀ r:List Nat,(ja key r x).length=r.length+1
 | []=>rfl
 | y::r=>by
  unfold ja
  split
  ·show (ja key r x).length+1=_;rw [zgw r];rfl
  ·rfl
theorem zdK {key:Nat->Nat} {x a:Nat}:∀ r:List Nat,a∈ja key r x↔a=x\/a∈r
 | []=>by simp [ja]
 | y::r=>by
  unfold ja
  split
  ·rw [UC,zdK r,UC];constructor
   ·rintro (h | h | h) <;> simp [h]
   ·rintro (h | h | h) <;> simp [h]
  ·simp
def zb0 (key:Nat->Nat) (l:List Nat):List Nat:=l.foldl (fun acc x=>ja key acc x) []
theorem zkw (key:Nat->Nat) (l:List Nat) (x:Nat):zb0 key (l++[x])=ja key (zb0 key l) x:=by
 unfold zb0;rw [KU];rfl
theorem zbV {key:Nat->Nat} {a:Nat}:∀ (l acc:List Nat),a∈l.foldl (fun acc x=>ja key acc x) acc↔a∈l\/a∈acc
 | [],acc=>by simp
 | x::l,acc=>by
  rw [QM,zbV l,zdK,UC];constructor
  ·rintro (h | h | h) <;> simp [h]
  ·rintro ((h | h) | h) <;> simp [h]
theorem zbW {key:Nat->Nat}:∀ (l acc:List Nat),(l.foldl (fun acc x=>ja key acc x) acc).length=l.length+acc.length
 | [],acc=>by simp
 | x::l,acc=>by
  rw [QM,zbW l,zgw,Qt];omega
theorem zhh {key:Nat->Nat} {l:List Nat} {a:Nat}:a∈zcJ key l↔a∈l:=by
 unfold zcJ;rw [List.mem_reverse,zbV];simp
theorem zmx {key:Nat->Nat} (l:List Nat):(zcJ key l).length=l.length:=by
 unfold zcJ;rw [Kk,zbW];rfl
section
variable {b c L g cap:Nat} {x:ExD} {q:OA} {w:Wd} {l:List Nat}
abbrev zbw (x:ExD):Nat->Nat:=fun i=>zbv (x.co.to i)
theorem zgv {B:Nat} (ho:OwnS zw 3 B w (some ⟨g,0,none⟩) cap l) (fx:ExH w b x q c) (fL:w.heap[L]?=some (.cells #[At0 b] 100 (0,0))) (hT:Tz64M w) (htg:1≠g) (hco:zV x.co.to) (h48:∀ a∈l,a<48) (hn:l.length<=20) (hn1:1<=l.length) :
  Calls PG 115 #[.slice (some ⟨g,0,none⟩) l.length cap,i64 0,i64 l.length,.func (.func 55) #[] #[At0 L]] w fun e w'=>e = .returned (.tuple #[])/\OwnS zw 3 B w' (some ⟨g,0,none⟩) cap (zcJ (zbw x) l)/\w.grownBy w' (some g):=by
 refine jf 53 [.slice (some ⟨g,0,none⟩) l.length cap,i64 0,i64 l.length,.func (.func 55) #[] #[At0 L]] (.c .p .p) Tryz.func115 ?_;obtain⟨E0,hE0⟩:∃ E0:List (Nat×Value),E0=[(0,.slice (some ⟨g,0,none⟩) l.length cap),(1,i64 0),(2,i64 l.length),(3,.func (.func 55) #[] #[At0 L])]:=⟨_,rfl⟩;have hbg:b≠g:=fun e=>by
  obtain⟨_,_,cur,hc⟩:=zq ho rfl;have hc:w.heap[g]?=_:=hc;rw [<- e,fx] at hc;simp at hc
 have hLg:L≠g:=fun e=>by
  obtain⟨_,_,cur,hc⟩:=zq ho rfl;have hc:w.heap[g]?=_:=hc;rw [<- e,fL] at hc;simp at hc
 refine⟨Unit,fun _=>⟨[(0,.slice (some ⟨g,0,none⟩) l.length cap),(1,i64 0),(2,i64 l.length),(3,.func (.func 55) #[] #[At0 L]),(8,i64 1)],[]⟩,fun _ X=>w=X,?_,?_⟩
 ·exact⟨1,ze (by omega),(),(cvE rfl rfl),rfl⟩
 rintro _ _ rfl;have hl0:l.take 1=(zb0 (zbw x) (l.take 1)).reverse:=by
  cases l with
  | nil=>simp at hn1
  | cons a l=>rfl
 refine⟨Nat,fun i=>⟨[(0,.slice (some ⟨g,0,none⟩) l.length cap),(1,i64 0),(2,i64 l.length),(3,.func (.func 55) #[] #[At0 L]),(8,i64 (i:Nat))],[]⟩,fun i X=>(1<=i/\i<=l.length)/\OwnS zw 3 B X (some ⟨g,0,none⟩) cap ((zb0 (zbw x) (l.take i)).reverse++l.drop i)/\w.grownBy X (some g),fun i=>l.length-i,1,
  (cvE rfl rfl),⟨⟨UW _,hn1⟩,by rw [<- hl0,JQ];exact ho,z6 _ _⟩,?_⟩
 rintro i X ⟨⟨hi1,hi⟩,oX,gX⟩;dsimp only;refine biE (fun hc=>?_) fun hc=>?_
 ·have hc:(i:Int)<(l.length:Int):=dT hc;have hil:i<l.length:=by omega
  obtain⟨u,hu⟩:∃ u,l[i]=u:=⟨_,rfl⟩;have hum:u∈l:=by rw [<- hu];exact gM hil
  obtain⟨S,hS⟩:=nm (zb0 (zbw x) (l.take i));have hSm:∀ a∈S,a<48:=fun a ha=>by
   rw [hS] at ha;have:=(zbV (key:=zbw x) (l.take i) []).1 ha;rcases this with h | h
   ·exact h48 a (Ka h)
   ·cases h
  have hSl:S.length=i:=by
   rw [hS];unfold zb0;rw [zbW,Qv];simp;omega
  have htk:zb0 (zbw x) (l.take (i+1))=ja (zbw x) S u:=by
   rw [tsg hil,hu,zkw,<- hS]
  rw [<- hS,<- JF hil,hu] at oX;refine⟨List Nat×List Nat,fun s=>⟨[(0,.slice (some ⟨g,0,none⟩) l.length cap),(1,i64 0),(2,i64 l.length),(3,.func (.func 55) #[] #[At0 L]),(8,i64 (i:Nat)),(9,i64 s.1.length)],[]⟩,fun s Y=>S.reverse=s.1++s.2/\(∀ y∈s.2,zbw x y<zbw x u)/\OwnS zw 3 B Y (some ⟨g,0,none⟩) cap (s.1++u::(s.2++l.drop (i+1)))/\w.grownBy Y (some g),fun s=>s.1.length,(S.reverse,[]),
   ⟨.cons rfl (.cons rfl (.cons rfl (.cons rfl (.cons rfl (.cons (by show _=some (i64 (S.reverse.length:Nat));rw [Kk,hSl];rfl) .nil))))),rfl⟩,⟨by rw [QK],fun y hy=>(by cases hy),oX,gX⟩,?_⟩
  clear oX gX;rintro⟨A,Bs⟩ Y ⟨hsp,hkB,oY,gY⟩;dsimp only at hsp hkB oY ⊢;have hAl:A.length<=i:=by
   have:=Gj List.length hsp;rw [Kk,hSl,lap] at this;omega
  have hdY:Bw Y Y.drew:=(Gb _ _).drew;have fin:∀ {Z:Wd},Bw Y Z->ja (zbw x) A.reverse u=u::A.reverse->((1<=i+1/\i+1<=l.length)/\OwnS zw 3 B Z (some ⟨g,0,none⟩) cap ((zb0 (zbw x) (l.take (i+1))).reverse++l.drop (i+1))/\w.grownBy Z (some g)):=fun {Z} hb hins=>by
   refine⟨⟨by omega,hil⟩,?_,jl gY (hb.mono gY.size)⟩;have h1:S=Bs.reverse++A.reverse:=by rw [<- Kn,<- hsp,Kb]
   rw [htk,h1,zgx _ _ (fun y hy=>hkB y (by simpa using hy)),hins];have h2:(Bs.reverse++u::A.reverse).reverse++l.drop (i+1)=A++u::(Bs++l.drop (i+1)):=by simp
   rw [h2];exact oY.below hb
  refine DrawE.ord [] [0,1,2,3,4,5,6,7,8,9,10,11,12,13,14,15,16] (by kernel_rfl) (biE (fun h=>?_) fun h=>?_)
  ·have h:(0:Int)<(A.length:Int):=dT h;obtain⟨A',y,hA⟩:∃ A' y,A=A'++[y]:=by
    refine⟨A.dropLast,A.getLast (fun e=>by rw [e] at h;simp at h),(List.dropLast_concat_getLast _).symm⟩
   subst hA;have hA'l:(A'++[y]).length=A'.length+1:=by simp
   rw [hA'l] at hAl h ⊢;have hrl:((A'++[y])++u::(Bs++l.drop (i+1))).length=l.length:=by
    have:=Gj List.length hsp;rw [Kk,hSl] at this;simp only [lap,Qt,QO,Qu] at this ⊢;omega
   have hyS:y<48:=hSm y (by
    have:y∈S.reverse:=(by rw [hsp];simp);simpa using this)
   obtain⟨b',o',hq',hb',hat'⟩:=oY.row.at (i:=A'.length) (by rw [hrl];omega);have hbo:b'=g/\o'=0:=by simpa using hq'.symm
   obtain⟨rfl,rfl⟩:=hbo;have c1:Y.cell? ⟨b',0+(A'.length+1)*1,none⟩=some (i64 u):=by
    have:=zc (hat' (A'.length+1) (by rw [hrl];omega)) (i:=0) (v:=i64 u) (by
     have e:((A'++[y])++u::(Bs++l.drop (i+1)))[A'.length+1]?=some u:=by
      rw [Jn (by simp),hA'l,UO];rfl
     rw [gE (by rw [hrl];omega)] at e;rw [Uf e];rfl)
    exact this
   have c2:Y.cell? ⟨b',0+A'.length*1,none⟩=some (i64 y):=by
    have:=zc (hat' A'.length (by rw [hrl];omega)) (i:=0) (v:=i64 y) (by
     have e:((A'++[y])++u::(Bs++l.drop (i+1)))[A'.length]?=some y:=by
      rw [KQ,Jn (UW _),UO];rfl
     rw [gE (by rw [hrl];omega)] at e;rw [Uf e];rfl)
    exact this
   refine⟨A'.length+1,rfl,by omega,?_⟩;refine⟨_,c1,(A'.length:Nat),(ze (by omega)).trans (by omega),A'.length,rfl,by omega,?_⟩;refine⟨_,c2,?_⟩;have fxY:ExH Y b x q c:=(gY.block b (hlt fx) (by simpa using hbg)).trans fx;have fLY:Y.heap[L]?=some (.cells #[At0 b] 100 (0,0)):=(gY.block L (hlt fL) (by simpa using hLg)).trans fL;have hTY:Tz64M Y:=jY hT (gY.block _ (zav hT) (by simpa using htg));refine cmo (zrU (hdr fxY) (hdr fLY) hco (h48 u hum) hyS (hTY.below hdY)) ?_;rintro e Z ⟨rfl,hbZ⟩;refine⟨hbZ,?_⟩;have hYZ:=hdY.trans hbZ;refine biE (fun hm=>?_) fun hm=>?_
   ·have hm:ziI (zbv (x.co.to y)) (zbv (x.co.to u))<0:=dT hm;have hk:zbw x y<zbw x u:=by
     unfold ziI at hm;by_cases h1:zbv (x.co.to y)<zbv (x.co.to u)
     ·exact h1
     ·rw [Gn h1] at hm
      split at hm <;> omega
    have oZ:=oY.below hYZ;have gZ:=jl gY (hYZ.mono gY.size);obtain⟨b2,o2,hq2,hb2,hat2⟩:=oZ.row.at (i:=A'.length) (by rw [hrl];omega);have hbo2:b2=b'/\o2=0:=(by simpa using hq2.symm);obtain⟨rfl,rfl⟩:=hbo2;have dZ:Bw Z Z.drew:=(Gb _ _).drew;have d1:=zcz hYZ c1;have d2:=zcz hYZ c2;refine DrawE.ord [15,17] [0,1,2,3,4,5,6,7,8,9,10,11,12,13,14,15,16,17] (by kernel_rfl) ⟨(A'.length:Nat),(ze (by omega)).trans (by omega),(A'.length:Nat),(ze (by omega)).trans (by omega),A'.length,rfl,by omega,?_⟩;refine⟨_,d2,A'.length+1,rfl,by omega,?_⟩;refine⟨_,d1,A'.length+1,rfl,by omega,?_⟩;refine zik (i:=A'.length+1) (v:=y) k3 rfl (oZ.below dZ) (by rw [hrl];omega) fun V oV gV=>⟨A'.length,rfl,by omega,?_⟩;refine zik (i:=A'.length) (v:=u) k3 rfl oV (by rw [QQ,hrl];omega) fun U oU gU=>?_;have e1:(((A'++[y])++u::(Bs++l.drop (i+1))).set (A'.length+1) y).set A'.length u=A'++u::((y::Bs)++l.drop (i+1)):=by
     rw [KQ,JP _ _ (by omega),Jz,JP _ _ (by omega),UO];rfl
    rw [e1] at oU;refine⟨(A'.length:Nat),(ze (by omega)).trans (by omega),(A',y::Bs),(cvE rfl rfl),⟨by rw [hsp];simp,fun z hz=>?_,oU,zd (zd (jl gZ (dZ.mono gZ.size)) gV) gU⟩,by show A'.length<_;omega⟩;rcases UC.1 hz with hz | hz
    ·rw [hz];exact hk
    ·exact hkB z hz
   ·have hm:¬ ziI (zbv (x.co.to y)) (zbv (x.co.to u))<0:=dF hm;have hk:¬ zbw x y<zbw x u:=fun h=>hm (by unfold ziI;rw [Gp h];decide);refine nxI (by omega) ⟨i+1,(cvE rfl rfl),fin hYZ ?_,zdc (by omega)⟩;rw [Kn];exact Gn hk
  ·have h:¬ (0:Int)<(A.length:Int):=dF h;have hA0:A=[]:=List.length_eq_zero_iff.1 (by omega);subst hA0;exact brF (nxI (by omega) ⟨i+1,(cvE rfl rfl),fin hdY rfl,zdc (by omega)⟩)
 ·have hc:¬ (i:Int)<(l.length:Int):=dF hc;obtain rfl:i=l.length:=by omega
  rw [Qx,Qn,QK] at oX;exact⟨rfl,oX,gX⟩
end
theorem zsl:∃ G,TyEq PG 51 true 6 2 G/\∀ f:Nat->UInt8,G (seg 6 fun i=>u8 (f i)):=by
 refine⟨_,.array (m:=6) (by decide) Tryz.underlying51 (fun w=>Tryz.isAgg51 w) (qI (by kernel_rfl) (by kernel_rfl)).1 (by kernel_rfl) tU8,fun f i hi=>⟨((f i).toNat:Int),?_⟩⟩;unfold zW;have h:=zax (n:=6) (fun i=>u8 (f i)) hi;rw [UX];have hl:i<(seg 6 fun i=>u8 (f i)).length:=by rw [zo];exact hi
 rw [<- JF hl,List.take_succ_cons,Up];rw [gE hl] at h;rw [Uf h];rfl
theorem zoi {f g:Nat->UInt8}:seg 6 (fun i=>u8 (f i))=seg 6 (fun i=>u8 (g i))↔((List.range 6).all fun l=>decide (f l=g l))=true:=by
 rw [Qk];constructor
 ·intro h i hi;have hi:=Uo.1 hi;have h3:=zax (n:=6) (fun i=>u8 (f i)) hi;rw [h,zax (n:=6) (fun i=>u8 (g i)) hi] at h3;have h4:=Uf h3;unfold u8 at h4;injection h4 with _ h5;exact Us (ji.1 h5).symm
 ·intro h;unfold seg;refine Kl fun i hi=>?_;rw [dT (h i hi)]
theorem zoE (x y:Operand) (f g:Nat->UInt8) (w:Wd):(do eqGuard .eql 51 x y (.agg (seg 6 fun i=>u8 (f i)).toArray) (.agg (seg 6 fun i=>u8 (g i)).toArray);binOp .eql 51 (.agg (seg 6 fun i=>u8 (f i)).toArray) (.agg (seg 6 fun i=>u8 (g i)).toArray)).run PG w = .ok (.bool ((List.range 6).all fun l=>decide (f l=g l))) w:=by
 obtain⟨G,h1,h2⟩:=zsl;have:=ziz h1 9998 rfl (by kernel_rfl) (zo 6 _) (zo 6 _) (h2 f) (h2 g) x y w;rw [this,zbx zoi,Kg]
section
variable {b c L g cap:Nat} {x:ExD} {q:OA} {w:Wd} {l:List Nat}
theorem zi4 {B:Nat} (ho:OwnS zw 3 B w (some ⟨g,0,none⟩) cap l) (fx:ExH w b x q c) (fL:w.heap[L]?=some (.cells #[At0 b] 100 (0,0))) (hT:Tz64M w) (htg:1≠g) (hco:zV x.co.to) (h48:∀ a∈l,a<48) (hn:l.length<=19) (hn1:1<=l.length) :
  Calls PG 85 #[.slice (some ⟨g,0,none⟩) l.length cap,i64 l.length,.func (.func 55) #[] #[At0 L]] w fun e w'=>e = .returned (.tuple #[])/\OwnS zw 3 B w' (some ⟨g,0,none⟩) cap (zcJ (zbw x) l)/\w.grownBy w' (some g):=by
 refine zH 63 [.slice (some ⟨g,0,none⟩) l.length cap,i64 l.length,.func (.func 55) #[] #[At0 L]] Tryz.func85 ?_;refine⟨Unit,fun _=>⟨[(0,.slice (some ⟨g,0,none⟩) l.length cap),(1,i64 l.length),(2,.func (.func 55) #[] #[At0 L]),(6,i64 20),(7,i64 0),(8,i64 20)],[]⟩,fun _ X=>w=X,fun _=>0,(),(cvE rfl rfl),rfl,?_⟩;rintro _ _ rfl;refine brN (Uh (by omega)) (cmo (zgv ho fx fL hT htg hco h48 (by omega) hn1) ?_);rintro e X ⟨rfl,oX,gX⟩;refine⟨Unit,fun _=>⟨[(1,i64 l.length),(6,i64 20)],[]⟩,fun _ Y=>X=Y,fun _=>0,(),(cvE rfl rfl),rfl,?_⟩;rintro _ _ rfl;exact brN (Uh (by omega)) ⟨rfl,oX,gX⟩
theorem zkW {q:OA} {n m:Nat} (hm:m<=1000):Calls PG 115 #[.slice q n cap,i64 (m:Nat),i64 (m:Nat),.func (.func 55) #[] #[At0 L]] w fun e w'=>e = .returned (.tuple #[])/\w=w':=by
 refine zH 53 [.slice q n cap,i64 (m:Nat),i64 (m:Nat),.func (.func 55) #[] #[At0 L]] Tryz.func115 ?_;refine nxI (by omega) ⟨Unit,fun _=>⟨[(2,i64 (m:Nat)),(8,i64 ((m+1:Nat):Int))],[]⟩,fun _ X=>w=X,fun _=>0,(),(cvE rfl rfl),rfl,?_⟩;rintro _ _ rfl;exact brN (Uh (by omega)) ⟨rfl,rfl⟩
theorem zmu {B:Nat} (ho:OwnS zw 3 B w (some ⟨g,0,none⟩) cap l) (fx:ExH w b x q c) (fL:w.heap[L]?=some (.cells #[At0 b] 100 (0,0))) (hT:Tz64M w) (htg:1≠g) (hco:zV x.co.to) (h48:∀ a∈l,a<48) (hn:l.length<=20) (hn1:1<=l.length) :
  Calls PG 85 #[.slice (some ⟨g,0,none⟩) l.length cap,i64 l.length,.func (.func 55) #[] #[At0 L]] w fun e w'=>e = .returned (.tuple #[])/\OwnS zw 3 B w' (some ⟨g,0,none⟩) cap (zcJ (zbw x) l)/\w.grownBy w' (some g):=by
 by_cases h19:l.length<=19
 ·exact zi4 ho fx fL hT htg hco h48 h19 hn1
 have hn20:l.length=20:=by omega
 refine zH 63 [.slice (some ⟨g,0,none⟩) l.length cap,i64 l.length,.func (.func 55) #[] #[At0 L]] Tryz.func85 ?_;refine⟨Bool,fun k=>⟨[(0,.slice (some ⟨g,0,none⟩) l.length cap),(1,i64 l.length),(2,.func (.func 55) #[] #[At0 L]),(6,i64 20),(7,i64 (if k=true then (0:Nat) else l.length:Nat)),(8,i64 (if k=true then l.length else 40:Nat))],[]⟩,fun k X=>(k=true/\w=X)\/(k=false/\OwnS zw 3 B X (some ⟨g,0,none⟩) cap (zcJ (zbw x) l)/\w.grownBy X (some g)),fun k=>if k=true then 1 else 0,true,⟨.cons rfl (.cons rfl (.cons rfl (.cons rfl (.cons rfl (.cons (by rw [hn20];rfl) .nil))))),rfl⟩,.inl ⟨rfl,rfl⟩,?_⟩;rintro k X (⟨rfl,rfl⟩ | ⟨rfl,oX,gX⟩)
 ·refine brE (Us (by show ((l.length:Nat):Int)<=(l.length:Int);omega)) (cmo (zgv ho fx fL hT htg hco h48 hn hn1) ?_);rintro e X ⟨rfl,oX,gX⟩;refine⟨40,by rw [hn20];rfl,?_⟩;exact⟨false,(cvE rfl rfl),.inr ⟨rfl,oX,gX⟩,by decide⟩
 ·refine brN (Uh (by show ¬ ((40:Nat):Int)<=(l.length:Int);omega)) (cmo (zkW (m:=l.length) (by omega)) ?_);rintro e _ ⟨rfl,rfl⟩;refine⟨Unit,fun _=>⟨[(1,i64 l.length),(6,i64 20)],[]⟩,fun _ Y=>X=Y,fun _=>0,(),(cvE rfl rfl),rfl,?_⟩;rintro _ _ rfl;exact brN (Uh (by omega)) ⟨rfl,oX,gX⟩
theorem zg6 {B:Nat} (ho:OwnS zw 3 B w (some ⟨g,0,none⟩) cap l) (fx:ExH w b x q c) (fL:w.heap[L]?=some (.cells #[At0 b] 100 (0,0))) (hT:Tz64M w) (htg:1≠g) (hco:zV x.co.to) (h48:∀ a∈l,a<48) (hn:l.length<=20) (hn1:1<=l.length) :
  Calls PG 54 #[.slice (some ⟨g,0,none⟩) l.length cap,.func (.func 55) #[] #[At0 L]] w fun e w'=>e = .returned (.tuple #[])/\OwnS zw 3 B w' (some ⟨g,0,none⟩) cap (zcJ (zbw x) l)/\w.grownBy w' (some g):=by
 refine zH 9 [.slice (some ⟨g,0,none⟩) l.length cap,.func (.func 55) #[] #[At0 L]] Tryz.func54 ?_;refine cmo (zmu ho fx fL hT htg hco h48 hn hn1) ?_;rintro e X ⟨rfl,h1,h2⟩;exact⟨rfl,h1,h2⟩
theorem zm3 {l:List Nat} (h:0<l.length):l.headD 48=l[0]:=by
 cases l with
 | nil=>simp at h
 | cons a r=>rfl
theorem zns {k a:Nat} (h:a∈z9 x k):a<x.ev.length:=by
 unfold z9 at h;exact Uo.1 (QT.1 h).1
theorem zlH {k a:Nat} (h:a∈zQ x k):a<x.ev.length:=zns (zhh.1 h)
theorem zrE (q:OA) (c:Nat):((exC x q c).drop 99).take 49=zj x.co:=by
 obtain⟨A,T,hA,hE⟩:=ziy x q c;show ((exC { x with co:=x.co } q c).drop 99).take 49=_;rw [hE,<- hA,Ul,Jh (by rw [zh];decide),JH (by rw [zh];decide)]
theorem zl7 (q:OA) (c:Nat):((exC x q c).drop 327).take 6=seg 6 fun i=>u8 (x.mem i):=by
 obtain⟨A,T,hA,hE⟩:=zoy x q c [];have:=hE x.mem;rw [QK] at this;show ((exC { x with mem:=x.mem } q c).drop 327).take 6=_;rw [this,<- hA,Ul,Jh (by rw [zo];decide),JH (by rw [zo];decide)]
abbrev zpg (X:Wd) (b:Nat) (f:Nat->UInt8):Prop:=X.heap[b]?=some (.cells (seg 6 fun i=>u8 (f i)).toArray 51 (0,0))
theorem znc {locs:Nat} (fx:ExH w b x q c) (hv:ExW w x q) (hlo:locs<=6) (hne:∀ l,l<locs->z9 x l≠[]) (hT:Tz64M w) :
  CB 34 #[At0 b,i64 locs] w (.bool (zai x locs)):=by
 refine jf 87 [At0 b,i64 locs] (.c .p (.c .p (.c .p (.c .p .p)))) Tryz.func34 ?_;obtain⟨L,hL⟩:=nm (w.heap.size);have hbw:=hlt fx;have hn:=hv.n;have htl:=zav hT;refine⟨Unit,fun _=>⟨[(1,i64 locs),(2,At0 L)],[]⟩,fun _ X=>X.heap[L]?=some (.cells #[At0 b] 100 (0,0))/\X.heap.size=L+1/\Bw w X,⟨(),⟨.cons rfl (.cons (by rw [hL];rfl) .nil),rfl⟩,by rw [hL];exact zy w _,by rw [hL];exact wz _ _,(zba w _)⟩,?_⟩;rintro _ X ⟨fL,sX,hbX⟩;refine⟨Unit,fun _=>⟨[(1,i64 locs),(2,At0 L),(5,At0 (L+1))],[]⟩,fun _ Y=>zaX Y (L+1) ⟨x.ev.length,fun _=>0⟩/\Y.heap.size=L+2/\Bw X Y,?_,?_⟩
 ·refine⟨_,zc (za fL) (i:=0) rfl,_,zc (za (zb hbX fx)) (i:=0) rfl,zj ⟨x.ev.length,fun _=>0⟩,by kernel_rfl,?_⟩;refine zn (X:=X) (v := .agg (zj ⟨x.ev.length,fun _=>0⟩).toArray) k48 (zh _) (by kernel_rfl) (qm _) fun Z hbZ fZ sZ=>?_;rw [sX] at fZ sZ;exact⟨(),⟨.cons rfl (.cons rfl (.cons (by rw [<- sX];rfl) .nil)),rfl⟩,fZ,sZ,hbZ⟩
 rintro _ Y ⟨fT,sY,hbY⟩;refine⟨Unit,fun _=>⟨[(1,i64 locs),(2,At0 L),(5,At0 (L+1)),(6,At0 (L+2))],[]⟩,fun _ Z=>zpg Z (L+2) (fun _=>0)/\zaX Z (L+1) ⟨x.ev.length,fun _=>0⟩/\Z.heap[L]?=some (.cells #[At0 b] 100 (0,0))/\Z.heap.size=L+3/\Bw w Z,?_,?_⟩
 ·exact⟨(),⟨.cons rfl (.cons rfl (.cons rfl (.cons (by rw [<- sY];rfl) .nil))),rfl⟩,by rw [<- sY];exact zy Y _,qF _ fT,qF _ (zb hbY fL),by rw [wz,sY],((zst hbX hbY)).alloc (by have:=hbX.size;have:=hbY.size;omega) _⟩
 clear fL sX hbX fT sY hbY;clear X Y;rintro _ X ⟨fM,fT,fL,sX,hbX⟩;obtain⟨P0,hP0⟩:∃ P0:RelD×(Nat->UInt8),P0=(⟨x.ev.length,fun _=>0⟩,fun _=>0):=⟨_,rfl⟩;have hco:zai x locs=match zg3 x locs 0 P0 with
  | none=>false
  | some p=>qM p.1 x.co&&(List.range 6).all fun l=>decide (p.2 l=x.mem l):=by rw [hP0];rfl
 refine⟨RelD×(Nat->UInt8),fun P=>⟨[(2,At0 L),(5,At0 (L+1)),(6,At0 (L+2))],[]⟩,fun P Z=>zg3 x locs 0 P0=some P/\zpg Z (L+2) P.2/\zaX Z (L+1) P.1/\Z.heap[L]?=some (.cells #[At0 b] 100 (0,0))/\Bw w Z,?_,?_⟩
 ·refine⟨Nat×(RelD×(Nat->UInt8)),fun s=>⟨[(2,At0 L),(5,At0 (L+1)),(6,At0 (L+2)),(17,i64 locs),(18,i64 (s.1:Nat))],[]⟩,fun s Z=>s.1<=locs/\zg3 x (locs-s.1) s.1 s.2=zg3 x locs 0 P0/\zV s.2.1.to/\zpg Z (L+2) s.2.2/\zaX Z (L+1) s.2.1/\Z.heap[L]?=some (.cells #[At0 b] 100 (0,0))/\Bw w Z/\L+3<=Z.heap.size,fun s=>locs-s.1,(0,P0),
   (cvE rfl rfl),⟨UZ _,rfl,by rw [hP0];exact fun i _=>(by show 0<_;decide),by rw [hP0];exact fM,by rw [hP0];exact fT,fL,hbX,by omega⟩,?_⟩
  clear fM fT fL sX hbX;rintro⟨l,P⟩ Z ⟨hl,hgo,hPw,fM,fT,fL,hbZ,sZ⟩;dsimp only at hl hgo hPw fM fT sZ ⊢;refine biE (fun hc=>?_) fun hc=>?_
  ·have hc:(l:Int)<(locs:Int):=dT hc;have hll:l<locs:=by omega
   have hstep:zg3 x (locs-l) l P=if (zQ x l).headD 48=l then zg3 x (locs-(l+1)) (l+1) (j7 (zQ x l) P.1,upd P.2 l (zdu x.ev (zQ x l))) else none:=by
    rw [show locs-l=(locs-(l+1))+1 by omega];rfl
   refine⟨_,zc (za fL) (i:=0) rfl,_,zc (za (zb hbZ fx)) (i:=0) rfl,?_⟩;obtain⟨pr,hpr⟩:∃ pr:Nat->Bool,pr=fun i=>decide ((evA x i).k=2)&&decide ((evA x i).l.toNat=l):=⟨_,rfl⟩;refine⟨Nat×OA×Nat,fun s=>⟨[(2,At0 L),(5,At0 (L+1)),(6,At0 (L+2)),(7,i64 (l:Nat)),(8,.slice s.2.1 ((List.range s.1).filter pr).length s.2.2),(17,i64 locs),(18,i64 (l:Nat)),(24,.slice q x.ev.length c),(25,i64 x.ev.length),(26,i64 (s.1:Nat))],[]⟩,fun s V=>s.1<=x.ev.length/\OwnS zw 3 Z.heap.size V s.2.1 s.2.2 ((List.range s.1).filter pr)/\Bw Z V,fun s=>x.ev.length-s.1,(0,none,0),
    (cvE rfl rfl),⟨UZ _,OwnS.nil,Gb _ _⟩,?_⟩
   rintro⟨k,ps,cs⟩ V ⟨hk,oV,hbV⟩;dsimp only at hk oV ⊢;have hVs:=hbV.size;refine biE (fun hc=>?_) fun hc=>?_
   ·have hc:(k:Int)<(x.ev.length:Int):=dT hc;have hkl:k<x.ev.length:=(by omega);have hbwV:=zst hbZ hbV;obtain⟨bq,oq,hqe,hb,hat⟩:=zcr (hv.ev.below hbwV) hkl;rw [zdO] at hat;have hfl:(List.range (k+1)).filter pr=(List.range k).filter pr++if pr k=true then [k] else []:=by
     rw [QW,Kw,Qo,List.filter_nil]
    have hprk:pr k=(decide ((evA x k).k=2)&&decide ((evA x k).l.toNat=l)):=(by rw [hpr]);have hll2:((List.range k).filter pr).length<=k:=by
     have:=JM pr (List.range k);rw [KW] at this;exact this
    obtain⟨e,he⟩:=nm (evA x k);rw [<- he] at hat hprk;have eq0:some (Value.slice q x.ev.length c)=some (Value.slice (some ⟨bq,oq,none⟩) x.ev.length c):=(by rw [hqe]);subst hqe;refine⟨k,rfl,hkl,evE.enc e,rfl,hat,hb,zn (X:=V) (v := .agg (evE.enc e).toArray) k60 rfl rfl (Qk.2 fun u hu=>evE.one e u hu) fun U hbU fU sU=>?_⟩;have fU:U.heap[V.heap.size]?=some (.cells (evE.enc e).toArray 60 (0,0)):=fU;have oU:=oV.below hbU;have hbU2:=hbV.trans (hbU.mono hVs);have hUs:=hbU2.size;have skip:pr k=false->(k+1<=x.ev.length/\OwnS zw 3 Z.heap.size U ps cs ((List.range (k+1)).filter pr)/\Bw Z U):=fun h=>⟨hkl,by rw [hfl,h];simpa using oU,hbU2⟩;have skipE:pr k=false->((List.range (k+1)).filter pr).length=((List.range k).filter pr).length:=fun h=>by rw [hfl,h];simp
    refine⟨u8 e.k,zc (za fU) (i:=1) rfl,biE (fun h1=>?_) fun h1=>?_⟩
    ·have h1:e.k=2:=ji.1 (dT h1);refine⟨u8 e.l,zc (za fU) (i:=2) rfl,(e.l.toNat:Int),qH _,biE (fun h2=>?_) fun h2=>?_⟩
     ·have h2:(e.l.toNat:Int)=(l:Int):=dT h2;have hp1:pr k=true:=(by rw [hprk,Us h1,Us (by omega:e.l.toNat=l)];rfl);rw [Gp hp1] at hfl;refine⟨⟨by decide,by decide,rfl⟩,zw.enc k,rfl,?_⟩;have hb2:Bw U (U.alloc (.cells (zw.enc k).toArray 3)):=zba _ _;have sb2:=hb2.size;unfold zdE zam;show SatR _ _;refine zo7 (oU.below hb2) (qN zw k) (by omega) (by omega) fun p' c' S oS gS hat2=>?_;rw [zag] at gS;rw [<- hfl] at oS ⊢;exact nxI (by omega) ⟨(k+1,p',c'),(cvE rfl rfl),⟨hkl,oS,hbU2.trans ((hb2.mono hUs).trans (jk (oU.below hb2) (by omega) (UW _) gS))⟩,zdc (by omega)⟩
     ·have h2:¬ (e.l.toNat:Int)=(l:Int):=dF h2;have hp0:pr k=false:=(by rw [hprk,Uh (by omega:¬ e.l.toNat=l),Ui]);exact nxI (by omega) ⟨(k+1,ps,cs),⟨.cons rfl (.cons rfl (.cons rfl (.cons rfl (.cons (by show _=some (Value.slice ps ((List.range (k+1)).filter pr).length cs);rw [skipE hp0];rfl) (.cons rfl (.cons rfl (.cons rfl (.cons rfl (.cons rfl .nil))))))))),rfl⟩,skip hp0,zdc (by omega)⟩
    ·have h1:¬ e.k=2:=fun e2=>(dF h1) (by rw [e2];rfl);have hp0:pr k=false:=(by rw [hprk,Uh h1];rfl);exact brF (nxI (by omega) ⟨(k+1,ps,cs),⟨.cons rfl (.cons rfl (.cons rfl (.cons rfl (.cons (by show _=some (Value.slice ps ((List.range (k+1)).filter pr).length cs);rw [skipE hp0];rfl) (.cons rfl (.cons rfl (.cons rfl (.cons rfl (.cons rfl .nil))))))))),rfl⟩,skip hp0,zdc (by omega)⟩)
   have hc:¬ (k:Int)<(x.ev.length:Int):=dF hc;obtain rfl:k=x.ev.length:=by omega
   have hwr:(List.range x.ev.length).filter pr=z9 x l:=by rw [hpr];rfl
   rw [hwr] at oV ⊢;have hwn:=hne l hll;have hw1:1<=(z9 x l).length:=List.length_pos_iff.2 hwn;have hw19:(z9 x l).length<=20:=hv.w20 l;have hps:∃ g,ps=some ⟨g,0,none⟩:=by
    rcases oV.inv with ⟨_,_,h⟩ | ⟨g,cur,h,_⟩
    ·exact (hwn h).elim
    ·exact⟨g,h⟩
   obtain⟨g,rfl⟩:=hps;have hg:=(zq oV rfl).1;have hg:Z.heap.size<=g:=hg;have hbwV:=zst hbZ hbV;have hZw:=hbZ.size;refine cmo (zg6 oV (zb hbwV fx) (zb hbV fL) (hT.below hbwV) (by omega) hv.co (fun a ha=>by have:=zns ha;omega) hw19 hw1) ?_;rintro e U ⟨rfl,oU,gU⟩;have oU:OwnS zw 3 Z.heap.size U (some ⟨g,0,none⟩) cs (zQ x l):=oU;have hrl:(zQ x l).length=(z9 x l).length:=zmx _;have hbU:Bw Z U:=hbV.trans (zi gU hVs hg);have hbwU:=hbZ.trans (hbU.mono hZw);have hU0:0<(zQ x l).length:=by omega
   obtain⟨bq,oq,hqe,hbq,hatq⟩:=oU.row.at hU0;have hbo:bq=g/\oq=0:=by simpa using hqe.symm
   obtain⟨rfl,rfl⟩:=hbo;rw [<- hrl];have hh:(zQ x l).headD 48=(zQ x l)[0]:=zm3 hU0;refine⟨0,rfl,hU0,i64 (zQ x l)[0],by have:=zc (hatq 0 hU0) (i:=0) (v:=i64 (zQ x l)[0]) rfl;exact this,biE (fun h=>?_) fun h=>?_⟩
   ·have h:(!decide (((zQ x l)[0]:Int)=(l:Int)))=true:=h;have h:¬ ((zQ x l)[0]:Int)=(l:Int):=(by simpa using h);rw [hstep,Gn (by rw [hh];omega)] at hgo;refine⟨rb ?_,hbwU⟩;rw [hco,<- hgo]
   have h:(!decide (((zQ x l)[0]:Int)=(l:Int)))=false:=h;have h:((zQ x l)[0]:Int)=(l:Int):=by simpa using h
   rw [hstep,Gp (by rw [hh];omega)] at hgo;have fTU:=zb hbU fT;have hRT:RelAt U (L+1) 0 48 [] [] P.1:=⟨rfl,by simpa using fTU⟩;have hrk48:∀ a∈zQ x l,a<48:=fun a ha=>by have:=zlH ha;omega
   have hLZ:=hlt fT;have hL2Z:=hlt fM;refine cmo (zol hRT hPw oU.row (fun a ha=>by cases ha;exact⟨hbq,by show bq≠L+1;omega⟩) (by omega) hrk48) ?_;rintro e S ⟨rfl,hRS,gS⟩;have fTS:zaX S (L+1) (j7 (zQ x l) P.1):=by simpa using hRS.cells
   have hbS:Bw w S:=hbwU.trans (zi gS hbwU.size (by omega));have fMS:=(gS.block (L+2) (hlt (zb hbU fM)) (by simp)).trans (zb hbU fM);have fLS:=(gS.block L (hlt (zb hbU fL)) (by simp)).trans (zb hbU fL);have oS:=qa oU fTU (by decide) gS;obtain⟨j,hj⟩:∃ j,j+1=(zQ x l).length:=⟨(zQ x l).length-1,by omega⟩;have hjl:j<(zQ x l).length:=by omega
   obtain⟨b6,o6,hp6,hl6,hat6⟩:=oS.row.at hjl;have hbo6:b6=bq/\o6=0:=by simpa using hp6.symm
   obtain⟨rfl,rfl⟩:=hbo6;obtain⟨t,ht⟩:∃ t,(zQ x l)[j]=t:=⟨_,rfl⟩;have htev:t<x.ev.length:=zlH (by rw [<- ht];exact gM hjl);have hlast:(zQ x l).getLastD 0=t:=by
    rw [List.getLastD_eq_getLast?,List.getLast?_eq_getElem?,show (zQ x l).length-1=j by omega,gE hjl,ht];rfl
   obtain⟨b7,o7,hp7,hl7,hat7⟩:=zcr (hv.ev.below hbS) htev;rw [zdO] at hat7;have hlV:zdu x.ev (zQ x l)=(evA x t).v:=by
    show (x.ev.getD ((zQ x l).getLastD 0) ev0).v=_;rw [hlast];rfl
   have dS:Bw S S.drew:=(Gb _ _).drew;refine DrawE.ord [15] [0,1,2,3,4,5,6,7,8,9,10,11,12,13,14,15] (by kernel_rfl) ⟨_,zc (za (hdr fLS)) (i:=0) rfl,_,zc (za (hdr (zb hbS fx))) (i:=0) rfl,(j:Nat),(ze (by omega)).trans (by omega),j,rfl,hjl,i64 t,by have:=zc (zm dS (hat6 j hjl)) (i:=0) (v:=i64 t) (by rw [ht];rfl);exact this,?_⟩;rw [hp7];refine⟨t,rfl,htev,u8 (evA x t).v,by have:=zc (zm dS hat7) (i:=3) (v:=u8 (evA x t).v) rfl;exact this,l,rfl,by omega,?_⟩;refine zk k5 (hdr fMS) (o:=0+l*1) (v:=u8 (evA x t).v) rfl rfl (by rw [zo];omega) rfl fun T fT2 gT sT=>?_;have gT2:S.grownBy T (some (L+2)):=zd (zf dS) gT;have e8:=zh3 (n:=6) (fun i=>u8 (P.2 i)) (fun i=>u8 (upd P.2 l (evA x t).v i)) (i:=l) (by omega) rfl (fun j hj=>by rw [qr _ _ hj]);rw [zK] at e8;rw [UX,UR,e8] at fT2;exact nxI (by omega) ⟨(l+1,(j7 (zQ x l) P.1,upd P.2 l (evA x t).v)),(cvE rfl rfl),⟨hll,by rw [<- hlV];exact hgo,zhz hPw hrk48,fT2,(gT2.block (L+1) (hlt fTS) (by simp)).trans fTS,(gT2.block L (hlt fLS) (by simp)).trans fLS,hbS.trans (zi gT2 hbS.size (by omega)),by have:=gT2.size;have:=gS.size;have:=hbU.size;omega⟩,zdc (by omega)⟩
  ·have hc:¬ (l:Int)<(locs:Int):=dF hc;obtain rfl:l=locs:=by omega
   rw [UO] at hgo;exact⟨P,(cvE rfl rfl),hgo.symm,fM,fT,fL,hbZ⟩
 rintro P Z ⟨hgo,fM,fT,fL,hbZ⟩;have hco2:zai x locs=(qM P.1 x.co&&(List.range 6).all fun l=>decide (P.2 l=x.mem l)):=by rw [hco,hgo]
 refine DrawE.ord [] [0,1,2,3,4,5,6,7,8,9,10,11,12,13,14,15] (by kernel_rfl) ?_;have dZ:Bw Z Z.drew:=(Gb _ _).drew;refine⟨zj P.1,zh _,za (hdr fT),hlt (hdr fT),_,zc (za (hdr fL)) (i:=0) rfl,?_⟩;have fxZ:=hdr (zb hbZ fx);refine⟨zj x.co,zh _,by have h:=zG (n:=99) (m:=49) (za fxZ);rw [show (exC x q c).toArray.toList=exC x q c from rfl,zrE] at h;exact h,hlt fxZ,_,fun w=>zbg _ _ P.1 x.co w,?_⟩;have fin:Bw w Z.drew:=zst hbZ dZ;refine biE (fun h=>?_) fun h=>?_
 ·have h:qM P.1 x.co=true:=h;exact⟨seg 6 (fun i=>u8 (P.2 i)),zo _ _,za (hdr fM),hlt (hdr fM),_,zc (za (hdr fL)) (i:=0) rfl,seg 6 (fun i=>u8 (x.mem i)),zo _ _,by have h:=zG (n:=327) (m:=6) (za fxZ);rw [show (exC x q c).toArray.toList=exC x q c from rfl,zl7] at h;exact h,hlt fxZ,_,fun w=>zoE _ _ P.2 x.mem w,rb (by rw [hco2,h,Uy]),fin⟩
 ·have h:qM P.1 x.co=false:=h;exact⟨rb (by rw [hco2,h,Uj]),fin⟩
end
section
variable {b c:Nat} {x:ExD} {q:OA} {w:Wd}
theorem zh9 {X:Wd} {o:Nat} {A T:List Value} {r:RelD} (fx:ExH X b x q c) (hA:A.length=o) (hE:exC x q c=A++(zj r++T)) {i:Nat} (hi:i<48):X.cell? ⟨b,o+1+i*1,none⟩=some (s64 (r.to i)):=by
 have hR:RelAt X b o 55 A T r:=⟨hA,by rw [<- hE];exact fx⟩;exact hR.cell hi
theorem zrk {X:Wd} (fx:ExH X b x q c) {i:Nat} (hi:i<48):X.cell? ⟨b,0+1+1+i*1,none⟩=some (s64 (x.po.to i)):=by
 obtain⟨A,T,hA,hE⟩:=zox x q c [];exact zh9 fx hA (by rw [<- hE,QK]) hi
theorem zrJ {X:Wd} (fx:ExH X b x q c) {i:Nat} (hi:i<48):X.cell? ⟨b,0+148+1+i*1,none⟩=some (s64 (x.dt.to i)):=by
 obtain⟨A,T,hA,hE⟩:=zoz x q c [];exact zh9 fx hA (by rw [<- hE,QK]) hi
theorem zrT {X:Wd} (fx:ExH X b x q c) {i:Nat} (hi:i<48):X.cell? ⟨b,0+197+1+i*1,none⟩=some (s64 (x.ct.to i)):=by
 obtain⟨A,T,hA,hE⟩:=zoA x q c [];exact zh9 fx hA (by rw [<- hE,QK]) hi
theorem zre {X:Wd} (fx:ExH X b x q c) {i:Nat} (hi:i<48):X.cell? ⟨b,0+246+1+i*1,none⟩=some (s64 (x.rm.to i)):=by
 obtain⟨A,T,hA,hE⟩:=zow x q c [];exact zh9 fx hA (by rw [<- hE,QK]) hi
theorem n64 {a b:Nat} (h:(!decide ((a:Int)=(b:Int)))=true):¬ a=b:=fun e=>by
 rw [e] at h;simp at h
theorem y64 {a b:Nat} (h:(!decide ((a:Int)=(b:Int)))=false):a=b:=by
 have h:(a:Int)=(b:Int):=by simpa using h
 exact Uz h
theorem n8 {a d:UInt8} (h:(!decide ((a.toNat:Int)=(d.toNat:Int)))=true):¬ a=d:=fun e2=>by
 rw [e2] at h;simp at h
theorem y8 {a d:UInt8} (h:(!decide ((a.toNat:Int)=(d.toNat:Int)))=false):a=d:=ji.1 (by simpa using h)
def wrG (x:ExD) (k:Nat):Nat:=(List.range k).foldl (fun s i=>if (evA x i).k=2 then s|||2^i else s) 0
theorem ziW (x:ExD) (k:Nat):wrG x (k+1)=if (evA x k).k=2 then wrG x k|||2^k else wrG x k:=by
 unfold wrG;rw [QW,KU];rfl
theorem zhX (x:ExD):∀ k,k<=64->wrG x k<2^64
 | 0,_=>by show 0<_;decide
 | k+1,h=>by
  rw [ziW]
  split
  ·exact KZ (zhX x k (by omega)) (qg (by omega))
  ·exact zhX x k (by omega)
theorem zk5 (fx:ExH w b x q c) (hv:ExW w x q) (hrn:x.rm.n=x.ev.length) (hok:okR x.rm=true) (hT:Tz64M w) :
  CB 35 #[At0 b] w (.bool (za5 x)):=by
 refine jf 130 [At0 b] (.s .p (.s .p (.c .p .p))) Tryz.func35 ?_;have hn:=hv.n;obtain⟨W,hW⟩:=nm (znt x);have hWG:W=wrG x x.ev.length:=by rw [hW];rfl
 have hW64:W<2^64:=by rw [hWG];exact zhX x _ (by omega)
 refine⟨Unit,fun _=>⟨[(0,At0 b),(3,s64 W),(4,s64 0)],[]⟩,fun _ X=>Bw w X,?_,?_⟩
 ·refine⟨_,zc (za fx) (i:=0) rfl,?_⟩;refine⟨Nat,fun k=>⟨[(0,At0 b),(3,s64 (wrG x k)),(4,s64 0),(17,.slice q x.ev.length c),(18,i64 x.ev.length),(19,i64 (k:Nat))],[]⟩,fun k X=>k<=x.ev.length/\Bw w X,fun k=>x.ev.length-k,0,
   (cvE rfl rfl),⟨UZ _,Gb _ _⟩,?_⟩
  rintro k X ⟨hk,hbX⟩;dsimp only;refine biE (fun hc=>?_) fun hc=>?_
  ·have hc:(k:Int)<(x.ev.length:Int):=dT hc;have hkl:k<x.ev.length:=by omega
   obtain⟨bq,oq,hqe,hb,hat⟩:=zcr (hv.ev.below hbX) hkl;rw [zdO] at hat;obtain⟨e,he⟩:=nm (evA x k);have hs:=ziW x k;rw [<- he] at hat hs;subst hqe;refine⟨k,rfl,hkl,evE.enc e,rfl,hat,hb,zn (X:=X) (v := .agg (evE.enc e).toArray) k60 rfl rfl (Qk.2 fun u hu=>evE.one e u hu) fun Y hbY fY sY=>?_⟩;have fY:Y.heap[X.heap.size]?=some (.cells (evE.enc e).toArray 60 (0,0)):=fY;have hbY2:=zst hbX hbY;refine⟨u8 e.k,zc (za fY) (i:=1) rfl,biE (fun h=>?_) fun h=>?_⟩
   ·have h:e.k=2:=ji.1 (dT h);rw [Gp h] at hs;exact⟨by omega,((2^k:Nat):Int),zat (e:=k) (by omega),((wrG x k|||2^k:Nat):Int),za7 (zhX x k (by omega)) (qg (by omega)),nxI (by omega) ⟨k+1,⟨.cons rfl (.cons (by show _=some (s64 (wrG x (k+1)));rw [hs];rfl) (.cons rfl (.cons rfl (.cons rfl (.cons rfl .nil))))),rfl⟩,⟨hkl,hbY2⟩,zdc (by omega)⟩⟩
   ·have h:¬ e.k=2:=fun e2=>(dF h) (by rw [e2];rfl);rw [Gn h] at hs;exact nxI (by omega) ⟨k+1,⟨.cons rfl (.cons (by show _=some (s64 (wrG x (k+1)));rw [hs];rfl) (.cons rfl (.cons rfl (.cons rfl (.cons rfl .nil))))),rfl⟩,⟨hkl,hbY2⟩,zdc (by omega)⟩
  ·have hc:¬ (k:Int)<(x.ev.length:Int):=dF hc;obtain rfl:k=x.ev.length:=by omega
   exact⟨(),⟨.cons rfl (.cons (by show _=some (s64 W);rw [hWG];rfl) (.cons rfl .nil)),rfl⟩,hbX⟩
 rintro _ X hbX;refine⟨_,zc (za (zb hbX fx)) (i:=0) rfl,?_⟩;have hdep:za5 x=zgL x W 0 x.ev 0:=by rw [hW];rfl
 refine⟨Nat×Nat,fun s=>⟨[(0,At0 b),(3,s64 W),(4,s64 s.2),(35,.slice q x.ev.length c),(36,i64 x.ev.length),(37,i64 (s.1:Nat))],[]⟩,fun s X=>s.1<=x.ev.length/\zgL x W s.1 (x.ev.drop s.1) s.2=za5 x/\s.2<2^64/\Bw w X,fun s=>x.ev.length-s.1,(0,0),
  (cvE rfl rfl),⟨UZ _,hdep.symm,by decide,hbX⟩,?_⟩
 clear hbX;rintro⟨k,h⟩ X ⟨hk,hgo,hh,hbX⟩;dsimp only at hk hgo hh ⊢;refine biE (fun hc=>?_) fun hc=>?_
 ·have hc:(k:Int)<(x.ev.length:Int):=dT hc;have hkl:k<x.ev.length:=by omega
  have hk48:k<48:=by omega
  obtain⟨bq,oq,hqe,hb,hat⟩:=zcr (hv.ev.below hbX) hkl;rw [zdO] at hat;obtain⟨e,he⟩:=nm (evA x k);rw [<- he] at hat;have hdrp:x.ev.drop k=e::x.ev.drop (k+1):=by
   rw [<- JF hkl,he];unfold evA;rw [gDe,gE hkl];rfl
  rw [hdrp] at hgo;unfold zgL at hgo;obtain⟨d,hd⟩:=nm (x.dt.to k);obtain⟨t,ht⟩:=nm (x.ct.to k);obtain⟨r,hr⟩:=nm (x.rm.to k);obtain⟨po,hpo⟩:=nm (x.po.to k);dsimp only at hgo;rw [<- hd,<- ht,<- hr,<- hpo] at hgo;have d64:d<2^64:=by rw [hd];exact hv.dt k hk48
  have t64:t<2^64:=by rw [ht];exact hv.ct k hk48
  have r64:r<2^64:=by rw [hr];exact hv.rm k hk48
  have p64:po<2^64:=by rw [hpo];exact hv.po k hk48
  have dt64:=KZ d64 t64;have dtr64:=KZ dt64 r64;have dr64:=KZ d64 r64;subst hqe;refine⟨k,rfl,hkl,evE.enc e,rfl,hat,hb,zn (X:=X) (v := .agg (evE.enc e).toArray) k60 rfl rfl (Qk.2 fun u hu=>evE.one e u hu) fun Y hbY fY sY=>?_⟩;have fY:Y.heap[X.heap.size]?=some (.cells (evE.enc e).toArray 60 (0,0)):=fY;have hbY2:=zst hbX hbY;have dY:Bw Y Y.drew:=(Gb _ _).drew;have fxY:=hdr (zb hbY2 fx);have fYd:=hdr fY;have hbD:=zst hbY2 dY;have no:∀ {Z:Wd},Bw w Z->za5 x=false->(Ending.returned (.bool false)=Ending.returned (.bool (za5 x))/\Bw w Z):=fun {Z} hb h=>⟨rb h.symm,hb⟩;refine DrawE.ord [] [0,1,2,3,4,5,6,7,8,9,10,11,12,13,14,15,16,17,18,19,20,21,22,23] (by kernel_rfl) ⟨k,rfl,hk48,s64 d,by rw [hd];exact zrJ fxY hk48,?_⟩;refine⟨k,rfl,hk48,s64 t,by rw [ht];exact zrT fxY hk48,?_⟩;refine⟨k,rfl,hk48,s64 r,by rw [hr];exact zre fxY hk48,?_⟩;refine⟨_,za7 d64 t64,_,za7 dt64 r64,biE (fun h1=>?_) fun h1=>?_⟩
  ·have h1:d|||t|||r=0:=Uz (dT h1);rw [Gp h1] at hgo;exact nxI (by omega) ⟨(k+1,h),(cvE rfl rfl),⟨hkl,hgo,hh,hbD⟩,zdc (by omega)⟩
  have h1:¬ d|||t|||r=0:=fun e2=>(dF h1) (by rw [e2];rfl);rw [Gn h1] at hgo;refine⟨u8 e.k,zc (za fYd) (i:=1) rfl,biE (fun h2=>?_) fun h2=>?_⟩
  ·have h2:¬ e.k=1:=n8 (d:=1) h2;rw [Gn fun h=>h2 h.1] at hgo;exact brT (brT (no hbD hgo.symm))
  have h2:e.k=1:=y8 (d:=1) h2;refine⟨_,za7 d64 r64,_,zbY dr64 hW64,biE (fun h3=>?_) fun h3=>?_⟩
  ·have h3:¬ qX (d|||r) W=0:=n64 (b:=0) h3;rw [Gn fun h=>h3 h.2.1] at hgo;exact brT (no hbD hgo.symm)
  have h3:qX (d|||r) W=0:=y64 (b:=0) h3;refine⟨_,za7 d64 t64,_,za7 dt64 r64,k,rfl,hk48,s64 po,by rw [hpo];exact zrk fxY hk48,?_⟩;refine⟨_,zbY dtr64 p64,biE (fun h4=>?_) fun h4=>?_⟩
  ·have h4:¬ qX (d|||t|||r) po=0:=n64 (b:=0) h4;rw [Gn fun h=>h4 h.2.2] at hgo;exact no hbD hgo.symm
  have h4:qX (d|||t|||r) po=0:=y64 (b:=0) h4;rw [Gp ⟨h2,h3,h4⟩] at hgo;refine cmo (zbh r64 (hT.below hbD)) ?_;rintro e2 Z ⟨rfl,hbZ⟩;have hbZ2:=zst hbD hbZ;by_cases hr0:r=0
  ·have e1:(els r).isEmpty=true:=by rw [hr0];rfl
   rw [e1];rw [Gp hr0] at hgo;exact brF (nxI (by omega) ⟨(k+1,h),(cvE rfl rfl),⟨hkl,hgo,hh,hbZ2⟩,zdc (by omega)⟩)
  rw [Gn hr0] at hgo;obtain⟨hhd,hem⟩:=zca hr0 r64;rw [hhd,hem];have hmem:=ziE hr0 r64;have hbit:r.testBit (ctz r)=true:=(zah.1 hmem).2;have hvl:ctz r<x.ev.length:=by
   have:=(zim hok hv.rm hk48 (by rw [<- hr];exact hbit)).1;rw [hrn] at this;omega
  obtain⟨v,hvd⟩:=nm (ctz r);rw [<- hvd] at hvl hgo ⊢;refine brT ?_;have fZ:=zb hbZ fYd;have dZ:Bw Z Z.drew:=(Gb _ _).drew;have hbZ3:=zst hbZ2 dZ;refine DrawE.ord [] [0,1,2,3,4,5,6,7,8,9,10,11,12,13,14,15,16,17,18,19,20,21,22,23] (by kernel_rfl) ⟨by omega,((2^v:Nat):Int),zat (e:=v) (by omega),biE (fun h5=>?_) fun h5=>?_⟩
  ·have h5:¬ r=2^v:=n64 h5;rw [Gn fun h=>h5 h.1] at hgo;exact brT (brT (no hbZ3 hgo.symm))
  have h5:r=2^v:=y64 h5;refine⟨by omega,_,zhY (a:=h) (k:=v) (by omega),_,zau (a:=h/2^v) (b:=1) (KF (Nat.div_le_self _ _) hh) (by decide),?_⟩;rw [zmj]
  cases hb5:h.testBit v with
  | true =>
   rw [Gn fun h=>(by rw [hb5] at h;cases h.2.1)] at hgo;exact brT (brT (no hbZ3 hgo.symm))
  | false =>
   refine brF ?_;obtain⟨bq2,oq2,hqe2,hb2,hat2⟩:=zcr (hv.ev.below hbZ3) hvl;rw [zdO] at hat2;obtain⟨f,hf⟩:=nm (evA x v);rw [<- hf] at hat2 hgo;refine⟨_,zc (za (zb hbZ3 fx)) (i:=0) rfl,v,rfl,hvl,?_⟩;simp only [Qa,Uu,Gi] at hqe2;rw [<- hqe2.1,<- hqe2.2] at hat2;refine⟨u8 f.l,by have:=zc hat2 (i:=2) (v:=u8 f.l) rfl;exact this,u8 e.l,zc (za (hdr fZ)) (i:=2) rfl,biE (fun h6=>?_) fun h6=>?_⟩
   ·have h6:¬ f.l=e.l:=n8 h6;rw [Gn fun h=>h6 h.2.2] at hgo;exact no hbZ3 hgo.symm
   have h6:f.l=e.l:=y8 h6;rw [Gp ⟨h5,hb5,h6⟩] at hgo;exact⟨_,za7 hh r64,nxI (by omega) ⟨(k+1,h|||r),(cvE rfl rfl),⟨hkl,hgo,KZ hh r64,hbZ3⟩,zdc (by omega)⟩⟩
 ·have hc:¬ (k:Int)<(x.ev.length:Int):=dF hc;obtain rfl:k=x.ev.length:=by omega
  rw [Qn] at hgo;exact⟨rb hgo,hbX⟩
end
end Go.Proofs.YtpalcnbhkigagaaGreatDoor
