/- Contracts of functions, and plain facts, for the law that the last text of this claim proves. -/
import Derived.Test.YtmbghmhjjodgmaaGreatDoorU6
import Derived.Test.YtmbghmhjjodgmaaGreatDoorU5
import Derived.Test.YtmbghmhjjodgmaaGreatDoorU1
import Derived.Test.YtmbghmhjjodgmaaGreatDoorU4
set_option linter.unusedSimpArgs false
set_option linter.unusedVariables false
namespace Go.Proofs.YtmbghmhjjodgmaaGreatDoor
open Go.Vc Go.RowKit Go.Sei
abbrev zRq:Obj := .cells zt27.toArray 27
theorem zoe {S:Sig} {all:List Oper} {X:List Nat} {QP:List PanicEntry->World->Prop} {x y:OT} {E:Env} {w:World} {K:Env->World->Prop} (h1:opsT S all X QP x E w K) (h2:opsT S all X QP y E w K):opsT S all X QP (.alt x y) E w K:=⟨h1,h2⟩
theorem znC {X W:World} (b:Bw X W):RelH (W.alloc zRq) W.heap.size zai:=hnew W zRq
theorem zsP {X W:World} {M P Q S:Nat} {A B C:RelD} (b:Bw X W) (hM:M<X.heap.size) (fP:RelH W P zai) (fQ:RelH W Q zai) (fS:RelH W S zai) (h1:P≠Q) (h2:P≠S) (h3:Q≠S) (p:X.heap.size<=P) (q:X.heap.size<=Q) (s:X.heap.size<=S) {K:World->Prop}
  (kont:∀ Y,((M<P/\M<Q/\M<S/\P≠Q/\P≠S/\Q≠S)/\RelH Y P A/\RelH Y Q B/\RelH Y S C/\Bw X Y)->K Y) :
  SatR ((storeVar 27 ⟨P,0,none⟩ (.agg (relC A).toArray)).run Tryz.prog W) fun _ w1=>SatR ((storeVar 27 ⟨Q,0,none⟩ (.agg (relC B).toArray)).run Tryz.prog w1) fun _ w2=>SatR ((storeVar 27 ⟨S,0,none⟩ (.agg (relC C).toArray)).run Tryz.prog w2) fun _ w3=>K w3 :=
 zcn fP p b fun Y1 f1 o1 b1=>zcn ((o1 Q (fun h=>h1 h.symm)).trans fQ) q b1 fun Y2 f2 o2 b2=>zcn ((o2 S (fun h=>h3 h.symm)).trans ((o1 S (fun h=>h2 h.symm)).trans fS)) s b2 fun Y3 f3 o3 b3 =>
  kont Y3 ⟨⟨by omega,by omega,by omega,h1,h2,h3⟩,(o3 P h2).trans ((o2 P h1).trans f1),(o3 Q h3).trans f2,f3,b3⟩
section
variable {w:World} {c:Nat} {x:ExD} {q:Option Addr}
theorem zoR {m:UInt8} (hv:ExV w x q):CB 26 #[u8 m,.agg (exC x q c).toArray] w (.agg (relC (zhF m.toNat x)).toArray):=by
 refine cofM 80 [u8 m,.agg (exC x q c).toArray] (.c .p (.c .p (.c .p (.c .p (.c .p .p))))) Tryz.func26 ?_;obtain⟨L,hL⟩:=nm (w.heap.size);have h16:=hv.n;obtain⟨n,hnn⟩:=nm (x.ev.length);refine⟨Unit,fun _=>⟨[(0,u8 m),(3,At0 L),(4,At0 (L+1))],[]⟩,fun _ X=>ExH X L x q c/\RelH X (L+1) zai/\Bw w X,?_,?_⟩
 ·obtain⟨h1,h2,h3,h4⟩:=zbx w x q c zai 27;have s1:=wz w (.cells (exC x q c).toArray 34);exact⟨(),⟨.cons (rfl) (.cons (by rw [hL];rfl) (.cons (by rw [hL,<- s1];rfl) (.nil))),rfl⟩,by rw [hL];exact h1,by rw [hL];exact h2,h4⟩
 rintro _ X ⟨fX,f0,hbX⟩;refine⟨Nat×Nat×Nat,fun s=>⟨[(0,u8 m),(3,At0 L),(4,At0 (L+1)),(5,At0 s.1),(6,At0 s.2.1),(7,At0 s.2.2)],[]⟩,fun s Z=>(L+1<s.1/\L+1<s.2.1/\L+1<s.2.2/\s.1≠s.2.1/\s.1≠s.2.2/\s.2.1≠s.2.2)/\RelH Z s.1 (zaN x 3)/\RelH Z s.2.1 (zaN x 4)/\RelH Z s.2.2 (zaN x 5)/\Bw X Z,?_,?_⟩
 ·have b0:Bw X X.drew:=(Below.refl _ _).drew;have y0:=b0.size;have hl0:=hlt f0;have fen:∀ (md:UInt8) {W:World},Bw X W->CB 29 #[.agg (exC x q c).toArray,u8 md] W (.agg (relC (zaN x md)).toArray):=fun md {W} hW=>zhh (hv.below ((zst hbX hW)));have ld:∀ {W:World},Bw X W->zaw W ⟨L,0,none⟩ (exC x q c)/\L<W.heap.size:=fun {W} hW=>⟨zab (zaa hW fX),hlt (zaa hW fX)⟩;refine DrawE.treeQ [9,10,11] (.op 0 (.op 2 (.op 4 (.alt (.op 6 (.alt (.op 7 (.alt (.op 8 (.op 1 (.op 3 (.op 5 (.op 9 (.op 10 (.op 11 .nil))))))) (.op 1 (.alt (.op 8 (.op 3 (.op 5 (.op 9 (.op 10 (.op 11 .nil)))))) (.op 3 (.alt (.op 8 (.op 5 (.op 9 (.op 10 (.op 11 .nil))))) (.op 5 (.op 8 (.op 9 (.op 10 (.op 11 .nil))))))))))) (.alt (.op 8 (.alt (.op 7 (.op 1 (.op 3 (.op 5 (.op 9 (.op 10 (.op 11 .nil))))))) (.op 1 (.alt (.op 7 (.op 3 (.op 5 (.op 9 (.op 10 (.op 11 .nil)))))) (.op 3 (.alt (.op 7 (.op 5 (.op 9 (.op 10 (.op 11 .nil))))) (.op 5 (.op 7 (.op 9 (.op 10 (.op 11 .nil))))))))))) (.op 1 (.alt (.op 7 (.alt (.op 8 (.op 3 (.op 5 (.op 9 (.op 10 (.op 11 .nil)))))) (.op 3 (.alt (.op 8 (.op 5 (.op 9 (.op 10 (.op 11 .nil))))) (.op 5 (.op 8 (.op 9 (.op 10 (.op 11 .nil))))))))) (.alt (.op 8 (.alt (.op 7 (.op 3 (.op 5 (.op 9 (.op 10 (.op 11 .nil)))))) (.op 3 (.alt (.op 7 (.op 5 (.op 9 (.op 10 (.op 11 .nil))))) (.op 5 (.op 7 (.op 9 (.op 10 (.op 11 .nil))))))))) (.op 3 (.alt (.op 7 (.alt (.op 8 (.op 5 (.op 9 (.op 10 (.op 11 .nil))))) (.op 5 (.op 8 (.op 9 (.op 10 (.op 11 .nil))))))) (.alt (.op 8 (.alt (.op 7 (.op 5 (.op 9 (.op 10 (.op 11 .nil))))) (.op 5 (.op 7 (.op 9 (.op 10 (.op 11 .nil))))))) (.op 5 (.alt (.op 7 (.op 8 (.op 9 (.op 10 (.op 11 .nil))))) (.op 8 (.op 7 (.op 9 (.op 10 (.op 11 .nil)))))))))))))))) (.alt (.op 7 (.alt (.op 6 (.alt (.op 8 (.op 1 (.op 3 (.op 5 (.op 9 (.op 10 (.op 11 .nil))))))) (.op 1 (.alt (.op 8 (.op 3 (.op 5 (.op 9 (.op 10 (.op 11 .nil)))))) (.op 3 (.alt (.op 8 (.op 5 (.op 9 (.op 10 (.op 11 .nil))))) (.op 5 (.op 8 (.op 9 (.op 10 (.op 11 .nil))))))))))) (.alt (.op 8 (.alt (.op 6 (.op 1 (.op 3 (.op 5 (.op 9 (.op 10 (.op 11 .nil))))))) (.op 1 (.alt (.op 6 (.op 3 (.op 5 (.op 9 (.op 10 (.op 11 .nil)))))) (.op 3 (.alt (.op 6 (.op 5 (.op 9 (.op 10 (.op 11 .nil))))) (.op 5 (.op 6 (.op 9 (.op 10 (.op 11 .nil))))))))))) (.op 1 (.alt (.op 6 (.alt (.op 8 (.op 3 (.op 5 (.op 9 (.op 10 (.op 11 .nil)))))) (.op 3 (.alt (.op 8 (.op 5 (.op 9 (.op 10 (.op 11 .nil))))) (.op 5 (.op 8 (.op 9 (.op 10 (.op 11 .nil))))))))) (.alt (.op 8 (.alt (.op 6 (.op 3 (.op 5 (.op 9 (.op 10 (.op 11 .nil)))))) (.op 3 (.alt (.op 6 (.op 5 (.op 9 (.op 10 (.op 11 .nil))))) (.op 5 (.op 6 (.op 9 (.op 10 (.op 11 .nil))))))))) (.op 3 (.alt (.op 6 (.alt (.op 8 (.op 5 (.op 9 (.op 10 (.op 11 .nil))))) (.op 5 (.op 8 (.op 9 (.op 10 (.op 11 .nil))))))) (.alt (.op 8 (.alt (.op 6 (.op 5 (.op 9 (.op 10 (.op 11 .nil))))) (.op 5 (.op 6 (.op 9 (.op 10 (.op 11 .nil))))))) (.op 5 (.alt (.op 6 (.op 8 (.op 9 (.op 10 (.op 11 .nil))))) (.op 8 (.op 6 (.op 9 (.op 10 (.op 11 .nil)))))))))))))))) (.alt (.op 8 (.alt (.op 6 (.alt (.op 7 (.op 1 (.op 3 (.op 5 (.op 9 (.op 10 (.op 11 .nil))))))) (.op 1 (.alt (.op 7 (.op 3 (.op 5 (.op 9 (.op 10 (.op 11 .nil)))))) (.op 3 (.alt (.op 7 (.op 5 (.op 9 (.op 10 (.op 11 .nil))))) (.op 5 (.op 7 (.op 9 (.op 10 (.op 11 .nil))))))))))) (.alt (.op 7 (.alt (.op 6 (.op 1 (.op 3 (.op 5 (.op 9 (.op 10 (.op 11 .nil))))))) (.op 1 (.alt (.op 6 (.op 3 (.op 5 (.op 9 (.op 10 (.op 11 .nil)))))) (.op 3 (.alt (.op 6 (.op 5 (.op 9 (.op 10 (.op 11 .nil))))) (.op 5 (.op 6 (.op 9 (.op 10 (.op 11 .nil))))))))))) (.op 1 (.alt (.op 6 (.alt (.op 7 (.op 3 (.op 5 (.op 9 (.op 10 (.op 11 .nil)))))) (.op 3 (.alt (.op 7 (.op 5 (.op 9 (.op 10 (.op 11 .nil))))) (.op 5 (.op 7 (.op 9 (.op 10 (.op 11 .nil))))))))) (.alt (.op 7 (.alt (.op 6 (.op 3 (.op 5 (.op 9 (.op 10 (.op 11 .nil)))))) (.op 3 (.alt (.op 6 (.op 5 (.op 9 (.op 10 (.op 11 .nil))))) (.op 5 (.op 6 (.op 9 (.op 10 (.op 11 .nil))))))))) (.op 3 (.alt (.op 6 (.alt (.op 7 (.op 5 (.op 9 (.op 10 (.op 11 .nil))))) (.op 5 (.op 7 (.op 9 (.op 10 (.op 11 .nil))))))) (.alt (.op 7 (.alt (.op 6 (.op 5 (.op 9 (.op 10 (.op 11 .nil))))) (.op 5 (.op 6 (.op 9 (.op 10 (.op 11 .nil))))))) (.op 5 (.alt (.op 6 (.op 7 (.op 9 (.op 10 (.op 11 .nil))))) (.op 7 (.op 6 (.op 9 (.op 10 (.op 11 .nil)))))))))))))))) (.op 1 (.alt (.op 6 (.alt (.op 7 (.alt (.op 8 (.op 3 (.op 5 (.op 9 (.op 10 (.op 11 .nil)))))) (.op 3 (.alt (.op 8 (.op 5 (.op 9 (.op 10 (.op 11 .nil))))) (.op 5 (.op 8 (.op 9 (.op 10 (.op 11 .nil))))))))) (.alt (.op 8 (.alt (.op 7 (.op 3 (.op 5 (.op 9 (.op 10 (.op 11 .nil)))))) (.op 3 (.alt (.op 7 (.op 5 (.op 9 (.op 10 (.op 11 .nil))))) (.op 5 (.op 7 (.op 9 (.op 10 (.op 11 .nil))))))))) (.op 3 (.alt (.op 7 (.alt (.op 8 (.op 5 (.op 9 (.op 10 (.op 11 .nil))))) (.op 5 (.op 8 (.op 9 (.op 10 (.op 11 .nil))))))) (.alt (.op 8 (.alt (.op 7 (.op 5 (.op 9 (.op 10 (.op 11 .nil))))) (.op 5 (.op 7 (.op 9 (.op 10 (.op 11 .nil))))))) (.op 5 (.alt (.op 7 (.op 8 (.op 9 (.op 10 (.op 11 .nil))))) (.op 8 (.op 7 (.op 9 (.op 10 (.op 11 .nil))))))))))))) (.alt (.op 7 (.alt (.op 6 (.alt (.op 8 (.op 3 (.op 5 (.op 9 (.op 10 (.op 11 .nil)))))) (.op 3 (.alt (.op 8 (.op 5 (.op 9 (.op 10 (.op 11 .nil))))) (.op 5 (.op 8 (.op 9 (.op 10 (.op 11 .nil))))))))) (.alt (.op 8 (.alt (.op 6 (.op 3 (.op 5 (.op 9 (.op 10 (.op 11 .nil)))))) (.op 3 (.alt (.op 6 (.op 5 (.op 9 (.op 10 (.op 11 .nil))))) (.op 5 (.op 6 (.op 9 (.op 10 (.op 11 .nil))))))))) (.op 3 (.alt (.op 6 (.alt (.op 8 (.op 5 (.op 9 (.op 10 (.op 11 .nil))))) (.op 5 (.op 8 (.op 9 (.op 10 (.op 11 .nil))))))) (.alt (.op 8 (.alt (.op 6 (.op 5 (.op 9 (.op 10 (.op 11 .nil))))) (.op 5 (.op 6 (.op 9 (.op 10 (.op 11 .nil))))))) (.op 5 (.alt (.op 6 (.op 8 (.op 9 (.op 10 (.op 11 .nil))))) (.op 8 (.op 6 (.op 9 (.op 10 (.op 11 .nil))))))))))))) (.alt (.op 8 (.alt (.op 6 (.alt (.op 7 (.op 3 (.op 5 (.op 9 (.op 10 (.op 11 .nil)))))) (.op 3 (.alt (.op 7 (.op 5 (.op 9 (.op 10 (.op 11 .nil))))) (.op 5 (.op 7 (.op 9 (.op 10 (.op 11 .nil))))))))) (.alt (.op 7 (.alt (.op 6 (.op 3 (.op 5 (.op 9 (.op 10 (.op 11 .nil)))))) (.op 3 (.alt (.op 6 (.op 5 (.op 9 (.op 10 (.op 11 .nil))))) (.op 5 (.op 6 (.op 9 (.op 10 (.op 11 .nil))))))))) (.op 3 (.alt (.op 6 (.alt (.op 7 (.op 5 (.op 9 (.op 10 (.op 11 .nil))))) (.op 5 (.op 7 (.op 9 (.op 10 (.op 11 .nil))))))) (.alt (.op 7 (.alt (.op 6 (.op 5 (.op 9 (.op 10 (.op 11 .nil))))) (.op 5 (.op 6 (.op 9 (.op 10 (.op 11 .nil))))))) (.op 5 (.alt (.op 6 (.op 7 (.op 9 (.op 10 (.op 11 .nil))))) (.op 7 (.op 6 (.op 9 (.op 10 (.op 11 .nil))))))))))))) (.op 3 (.alt (.op 6 (.alt (.op 7 (.alt (.op 8 (.op 5 (.op 9 (.op 10 (.op 11 .nil))))) (.op 5 (.op 8 (.op 9 (.op 10 (.op 11 .nil))))))) (.alt (.op 8 (.alt (.op 7 (.op 5 (.op 9 (.op 10 (.op 11 .nil))))) (.op 5 (.op 7 (.op 9 (.op 10 (.op 11 .nil))))))) (.op 5 (.alt (.op 7 (.op 8 (.op 9 (.op 10 (.op 11 .nil))))) (.op 8 (.op 7 (.op 9 (.op 10 (.op 11 .nil)))))))))) (.alt (.op 7 (.alt (.op 6 (.alt (.op 8 (.op 5 (.op 9 (.op 10 (.op 11 .nil))))) (.op 5 (.op 8 (.op 9 (.op 10 (.op 11 .nil))))))) (.alt (.op 8 (.alt (.op 6 (.op 5 (.op 9 (.op 10 (.op 11 .nil))))) (.op 5 (.op 6 (.op 9 (.op 10 (.op 11 .nil))))))) (.op 5 (.alt (.op 6 (.op 8 (.op 9 (.op 10 (.op 11 .nil))))) (.op 8 (.op 6 (.op 9 (.op 10 (.op 11 .nil)))))))))) (.alt (.op 8 (.alt (.op 6 (.alt (.op 7 (.op 5 (.op 9 (.op 10 (.op 11 .nil))))) (.op 5 (.op 7 (.op 9 (.op 10 (.op 11 .nil))))))) (.alt (.op 7 (.alt (.op 6 (.op 5 (.op 9 (.op 10 (.op 11 .nil))))) (.op 5 (.op 6 (.op 9 (.op 10 (.op 11 .nil))))))) (.op 5 (.alt (.op 6 (.op 7 (.op 9 (.op 10 (.op 11 .nil))))) (.op 7 (.op 6 (.op 9 (.op 10 (.op 11 .nil)))))))))) (.op 5 (.alt (.op 6 (.alt (.op 7 (.op 8 (.op 9 (.op 10 (.op 11 .nil))))) (.op 8 (.op 7 (.op 9 (.op 10 (.op 11 .nil))))))) (.alt (.op 7 (.alt (.op 6 (.op 8 (.op 9 (.op 10 (.op 11 .nil))))) (.op 8 (.op 6 (.op 9 (.op 10 (.op 11 .nil))))))) (.op 8 (.alt (.op 6 (.op 7 (.op 9 (.op 10 (.op 11 .nil))))) (.op 7 (.op 6 (.op 9 (.op 10 (.op 11 .nil)))))))))))))))))))))))) (by kernel_rfl) ?_;refine⟨_,zao _ _ _,(ld b0).1,(ld b0).2,?_⟩;refine⟨_,zao _ _ _,(ld b0).1,(ld b0).2,?_⟩;refine⟨_,zao _ _ _,(ld b0).1,(ld b0).2,?_⟩;have ba:∀ (A:World) (o:Obj),Bw A (A.alloc o):=fun A o=>(zba _ _);have ca:∀ (md:UInt8) {W:World} (b:Bw X W) {K:Ending->World->Prop},(∀ V,Bw W V->Bw X V->K (.returned (.agg (relC (zaN x md)).toArray)) V)->Calls Tryz.prog 29 #[.agg (exC x q c).toArray,u8 md] W K:=fun md {W} b {K} k=>cmo (fen md b) fun e V h=>by obtain⟨rfl,v⟩:=h;exact k V v ((zst b v))
  have b:=b0;show opsT _ _ _ _ (.alt _ _) _ _ _
  repeat' first
   | (with_reducible refine zoe ?_ ?_)
   | ((with_reducible show opsT _ _ _ _ (.op 6 _) _ _ _);refine⟨ba _ _,?_⟩;(try have n67:=(Nat.ne_of_lt (hlt f7)).symm);(try have n68:=(Nat.ne_of_lt (hlt f8)).symm);(try replace f7:=hold zRq f7);(try replace f8:=hold zRq f8);have f6:=znC b;have g6:=b.size;replace b:=b.alloc b.size zRq)
   | ((with_reducible show opsT _ _ _ _ (.op 7 _) _ _ _);refine⟨ba _ _,?_⟩;(try have n67:=Nat.ne_of_lt (hlt f6));(try have n78:=(Nat.ne_of_lt (hlt f8)).symm);(try replace f6:=hold zRq f6);(try replace f8:=hold zRq f8);have f7:=znC b;have g7:=b.size;replace b:=b.alloc b.size zRq)
   | ((with_reducible show opsT _ _ _ _ (.op 8 _) _ _ _);refine⟨ba _ _,?_⟩;(try have n68:=Nat.ne_of_lt (hlt f6));(try have n78:=Nat.ne_of_lt (hlt f7));(try replace f6:=hold zRq f6);(try replace f7:=hold zRq f7);have f8:=znC b;have g8:=b.size;replace b:=b.alloc b.size zRq)
   | ((with_reducible show opsT _ _ _ _ (.op 1 _) _ _ _);refine ca 3 b fun V v b=>⟨v,?_⟩;(try replace f6:=zaa v f6);(try replace f7:=zaa v f7);(try replace f8:=zaa v f8))
   | ((with_reducible show opsT _ _ _ _ (.op 3 _) _ _ _);refine ca 4 b fun V v b=>⟨v,?_⟩;(try replace f6:=zaa v f6);(try replace f7:=zaa v f7);(try replace f8:=zaa v f8))
   | ((with_reducible show opsT _ _ _ _ (.op 5 _) _ _ _);refine ca 5 b fun V v b=>⟨v,?_⟩;(try replace f6:=zaa v f6);(try replace f7:=zaa v f7);(try replace f8:=zaa v f8))
   | ((with_reducible show opsT _ _ _ _ (.op 9 _) _ _ _);exact zsP b hl0 f6 f7 f8 n67 n68 n78 g6 g7 g8 fun Y h=>⟨(_,_,_),⟨.cons rfl (.cons rfl (.cons rfl (.cons rfl (.cons rfl (.cons rfl (.nil)))))),rfl⟩,h⟩)
 rintro⟨F,H,I⟩ Y ⟨hne,fF,fG,fH,hbY⟩;dsimp only at hne fF fG fH ⊢;replace fX:=zaa hbY fX;replace f0:=zaa hbY f0;replace hbX:=zst hbX hbY;clear hbY;clear X
 rename World=>X
 have wF:∀ md,WrdR (zaN x md).to:=fun md=>zdB (by omega);have wG:=wF 4;have wH:=wF 5;replace wF:=wF 3;refine⟨Unit,fun _=>⟨[(0,u8 m),(3,At0 L),(4,At0 (L+1)),(5,At0 F),(6,At0 H),(7,At0 I),(8,i64 n)],[]⟩,fun _ Y=>X=Y,?_,?_⟩
 ·refine⟨_,zax (zab fX),?_⟩;exact⟨(),⟨.cons rfl (.cons rfl (.cons rfl (.cons rfl (.cons rfl (.cons rfl (.cons (by rw [hnn];rfl) .nil)))))),rfl⟩,rfl⟩
 rintro _ _ rfl;refine⟨Nat,fun R=>⟨[(0,u8 m),(3,At0 L),(4,At0 (L+1)),(5,At0 F),(6,At0 H),(7,At0 I),(8,i64 n),(9,At0 R)],[]⟩,fun R Z=>L+1<R/\F<R/\H<R/\I<R/\RelH Z R ⟨n,fun _=>0⟩/\ExH Z L x q c/\RelH Z (L+1) zai/\RelH Z F (zaN x 3)/\RelH Z H (zaN x 4)/\RelH Z I (zaN x 5)/\Bw w Z,?_,?_⟩
 ·refine⟨relC ⟨n,fun _=>0⟩,by kernel_rfl,?_⟩;refine zan (X:=X) (v := .agg (relC ⟨n,fun _=>0⟩).toArray) k27 (zad _) (by kernel_rfl) (zau _) fun Z hbZ fZ sZ=>?_;exact⟨X.heap.size,⟨.cons rfl (.cons rfl (.cons rfl (.cons rfl (.cons rfl (.cons rfl (.cons rfl (.cons rfl (.nil)))))))),rfl⟩,hlt f0,hlt fF,hlt fG,hlt fH,fZ,zaa hbZ fX,zaa hbZ f0,zaa hbZ fF,zaa hbZ fG,zaa hbZ fH,(zst hbX hbZ)⟩
 clear fX f0 fF fG fH hbX;clear X;rintro R X ⟨hR0,hR1,hR2,hR3,f,fX,f0,fF,fG,fH,hbX⟩;refine⟨Unit,fun _=>⟨[(4,At0 (L+1)),(9,At0 R)],[]⟩,fun _ Z=>RelH Z R (zhF m.toNat x)/\RelH Z (L+1) zai/\Bw w Z,?_,?_⟩
 ·obtain⟨base,hbase⟩:∃ base:Nat->Nat,base=fun _=>0:=⟨_,rfl⟩;have hbw:WrdR base:=by rw [hbase];exact fun i _=>(by show 0<2^64;decide)
  obtain⟨p,hp⟩:∃ p:Nat->Nat->Bool,p=fun a b=>hasM x.po a b&&(kneQ x a&&(kneQ x b&&zat m.toNat x a b (hasM (zaN x 3) a b) (hasM (zaN x 4) a b) (hasM (zaN x 5) a b))):=⟨_,rfl⟩;have hend:(⟨n,zbj base n p n 0⟩:RelD)=zhF m.toNat x:=by rw [hp,hbase,zfZ,hnn];rfl
  rw [<- hbase] at f;refine⟨Nat,fun a=>⟨[(0,u8 m),(3,At0 L),(4,At0 (L+1)),(5,At0 F),(6,At0 H),(7,At0 I),(8,i64 n),(9,At0 R),(10,i64 (a:Nat))],[]⟩,fun a Z=>a<=n/\RelH Z R ⟨n,zbj base n p a 0⟩/\ExH Z L x q c/\RelH Z (L+1) zai/\RelH Z F (zaN x 3)/\RelH Z H (zaN x 4)/\RelH Z I (zaN x 5)/\Bw w Z,fun a=>n-a,0,⟨.cons rfl (.cons rfl (.cons rfl (.cons rfl (.cons rfl (.cons rfl (.cons rfl (.cons rfl (.cons rfl (.nil))))))))),rfl⟩,⟨Nat.zero_le _,by rw [zdk];exact f,fX,f0,fF,fG,fH,hbX⟩,?_⟩;clear f fX f0 fF fG fH hbX;clear X;rintro a X ⟨ha,f,fX,f0,fF,fG,fH,hbX⟩;dsimp only at f ⊢;refine biE (fun hc=>?_) fun hc=>?_
  ·have hc:(a:Int)<(n:Int):=dT hc;have han:a<n:=by omega
   refine⟨Nat,fun d=>⟨[(0,u8 m),(3,At0 L),(4,At0 (L+1)),(5,At0 F),(6,At0 H),(7,At0 I),(8,i64 n),(9,At0 R),(10,i64 (a:Nat)),(11,i64 (d:Nat))],[]⟩,fun d Z=>d<=n/\RelH Z R ⟨n,zbj base n p a d⟩/\ExH Z L x q c/\RelH Z (L+1) zai/\RelH Z F (zaN x 3)/\RelH Z H (zaN x 4)/\RelH Z I (zaN x 5)/\Bw w Z,fun d=>n-d,0,⟨.cons rfl (.cons rfl (.cons rfl (.cons rfl (.cons rfl (.cons rfl (.cons rfl (.cons rfl (.cons rfl (.cons rfl (.nil)))))))))),rfl⟩,⟨Nat.zero_le _,f,fX,f0,fF,fG,fH,hbX⟩,?_⟩;clear f fX f0 fF fG fH hbX;clear X;rintro d X ⟨hd,f,fX,f0,fF,fG,fH,hbX⟩;dsimp only at f ⊢;refine biE (fun hc=>?_) fun hc=>?_
   ·have hc:(d:Int)<(n:Int):=dT hc;have hdn:d<n:=(by omega);obtain⟨bq,oq,hqe,hbq,hat⟩:=zdZ (hv.below hbX).ev (by omega:0<x.ev.length);subst hqe;have dX:Bw X X.drew:=(Below.refl _ _).drew;refine DrawE.ord [] [0,1,2,3,4,5,6,7,8,9,10,11,12,13,14,15,16,17,18,19,20,21,22,23,24,25,26,27,28,29,30,32,33,34,36,37,38,31,35,39,40,41] (by kernel_rfl) ?_;have f:=zaa dX f;have fX:=zaa dX fX;have f0:=zaa dX f0;have fF:=zaa dX fF;have fG:=zaa dX fG;have fH:=zaa dX fH;have hat:=fun i hi=>zae dX (hat i hi);replace hbX:=zst hbX dX;clear dX;refine⟨_,zad _,r_po fX,hlt fX,?_⟩;refine cmo (za0 hv.po (by omega) (by omega)) ?_;rintro e U ⟨rfl,hbU⟩;refine⟨hbU,?_⟩;have f:=zaa hbU f;have fX:=zaa hbU fX;have f0:=zaa hbU f0;have fF:=zaa hbU fF;have fG:=zaa hbU fG;have fH:=zaa hbU fH;have hat:=fun i hi=>zae hbU (hat i hi);replace hbX:=zst hbX hbU;refine biE (fun h1=>?_) fun h1=>?_
    ·refine⟨_,zax (zab fX),?_⟩;refine⟨a,rfl,by omega,?_⟩;refine⟨_,zcY (hat a (by omega)),?_⟩;refine biE (fun h2=>?_) fun h2=>?_
     ·have h2:=zds.symm.trans (notB h2);refine⟨_,zax (zab fX),?_⟩;refine⟨d,rfl,by omega,?_⟩;refine⟨_,zcY (hat d (by omega)),?_⟩;refine biE (fun h3=>?_) fun h3=>?_
      ·have h3:=zds.symm.trans (notB h3);refine⟨_,zao _ _ _,zab fX,hlt fX,?_⟩;refine⟨_,zad _,zab fF,hlt fF,?_⟩;refine⟨_,zad _,zab fG,hlt fG,?_⟩;refine⟨_,zad _,zab fH,hlt fH,?_⟩;refine cmo (za0 wF (by omega) (by omega)) ?_;rintro e U ⟨rfl,hbU⟩;refine⟨hbU,?_⟩;have f:=zaa hbU f;have fX:=zaa hbU fX;have f0:=zaa hbU f0;have fF:=zaa hbU fF;have fG:=zaa hbU fG;have fH:=zaa hbU fH;have hat:=fun i hi=>zae hbU (hat i hi);replace hbX:=zst hbX hbU;refine cmo (za0 wG (by omega) (by omega)) ?_;rintro e U ⟨rfl,hbU⟩;refine⟨hbU,?_⟩;have f:=zaa hbU f;have fX:=zaa hbU fX;have f0:=zaa hbU f0;have fF:=zaa hbU fF;have fG:=zaa hbU fG;have fH:=zaa hbU fH;have hat:=fun i hi=>zae hbU (hat i hi);replace hbX:=zst hbX hbU;refine cmo (za0 wH (by omega) (by omega)) ?_;rintro e U ⟨rfl,hbU⟩;refine⟨hbU,?_⟩;have f:=zaa hbU f;have fX:=zaa hbU fX;have f0:=zaa hbU f0;have fF:=zaa hbU fF;have fG:=zaa hbU fG;have fH:=zaa hbU fH;have hat:=fun i hi=>zae hbU (hat i hi);replace hbX:=zst hbX hbU;refine cmo (zmM (m:=m) (a:=a) (d:=d) (hv.below hbX) (by omega) (by omega)) ?_;rintro e U ⟨rfl,hbU⟩;refine⟨hbU,?_⟩;have f:=zaa hbU f;have fX:=zaa hbU fX;have f0:=zaa hbU f0;have fF:=zaa hbU fF;have fG:=zaa hbU fG;have fH:=zaa hbU fH;have hat:=fun i hi=>zae hbU (hat i hi);replace hbX:=zst hbX hbU;refine biE (fun h4=>?_) fun h4=>?_
       ·have hpt:p a d=true:=(by rw [hp];simp [h1,h2,h3,h4,kneQ]);refine⟨_,zad ⟨n,zbj base n p a d⟩,zab f,hlt f,?_⟩;refine cmo (zeE (a:=a) (d:=d) (zdT hbw (by omega) (by omega)) (by omega) (by omega)) ?_;rintro e U ⟨rfl,hbU⟩;rw [putB hpt];refine zcn (zaa hbU f) (by omega) ((zst hbX hbU)) fun Z fZ oZ bZ=>?_;refine nxI (by omega) ?_;exact⟨d+1,⟨.cons rfl (.cons rfl (.cons rfl (.cons rfl (.cons rfl (.cons rfl (.cons rfl (.cons rfl (.cons rfl (.cons rfl (.nil)))))))))),rfl⟩,⟨hdn,fZ,(oZ L (by omega)).trans (zaa hbU fX),(oZ (L+1) (by omega)).trans (zaa hbU f0),(oZ F (by omega)).trans (zaa hbU fF),(oZ H (by omega)).trans (zaa hbU fG),(oZ I (by omega)).trans (zaa hbU fH),bZ⟩,zdc (by omega)⟩
       ·have hpf:p a d=false:=(by rw [hp];simp [h1,h2,h3,h4,kneQ]);refine nxI (by omega) ?_;exact⟨d+1,⟨.cons rfl (.cons rfl (.cons rfl (.cons rfl (.cons rfl (.cons rfl (.cons rfl (.cons rfl (.cons rfl (.cons rfl (.nil)))))))))),rfl⟩,⟨hdn,by rw [<- za2 hpf];exact f,fX,f0,fF,fG,fH,hbX⟩,zdc (by omega)⟩
      ·have h3:=zds.symm.trans (notF h3);refine brF ?_;have hpf:p a d=false:=(by rw [hp];simp [h1,h2,h3,kneQ]);refine nxI (by omega) ?_;exact⟨d+1,⟨.cons rfl (.cons rfl (.cons rfl (.cons rfl (.cons rfl (.cons rfl (.cons rfl (.cons rfl (.cons rfl (.cons rfl (.nil)))))))))),rfl⟩,⟨hdn,by rw [<- za2 hpf];exact f,fX,f0,fF,fG,fH,hbX⟩,zdc (by omega)⟩
     ·have h2:=zds.symm.trans (notF h2);refine brF ?_;refine brF ?_;have hpf:p a d=false:=(by rw [hp];simp [h1,h2,kneQ]);refine nxI (by omega) ?_;exact⟨d+1,⟨.cons rfl (.cons rfl (.cons rfl (.cons rfl (.cons rfl (.cons rfl (.cons rfl (.cons rfl (.cons rfl (.cons rfl (.nil)))))))))),rfl⟩,⟨hdn,by rw [<- za2 hpf];exact f,fX,f0,fF,fG,fH,hbX⟩,zdc (by omega)⟩
    ·refine brF ?_;refine brF ?_;refine brF ?_;have hpf:p a d=false:=(by rw [hp];simp [h1,kneQ]);refine nxI (by omega) ?_;exact⟨d+1,⟨.cons rfl (.cons rfl (.cons rfl (.cons rfl (.cons rfl (.cons rfl (.cons rfl (.cons rfl (.cons rfl (.cons rfl (.nil)))))))))),rfl⟩,⟨hdn,by rw [<- za2 hpf];exact f,fX,f0,fF,fG,fH,hbX⟩,zdc (by omega)⟩
   ·have hc:¬ (d:Int)<(n:Int):=dF hc;obtain rfl:d=n:=(by omega);refine nxI (by omega) ?_;exact⟨a+1,⟨.cons rfl (.cons rfl (.cons rfl (.cons rfl (.cons rfl (.cons rfl (.cons rfl (.cons rfl (.cons rfl (.nil))))))))),rfl⟩,⟨han,by rw [<- zdl];exact f,fX,f0,fF,fG,fH,hbX⟩,zdc (by omega)⟩
  ·have hc:¬ (a:Int)<(n:Int):=dF hc;obtain rfl:a=n:=by omega
   rw [hend] at f;exact⟨(),⟨.cons rfl (.cons rfl (.nil)),rfl⟩,f,f0,hbX⟩
 clear f fX f0 fF fG fH hbX;clear X;rintro _ X ⟨f,f0,hbX⟩;refine⟨relC (zhF m.toNat x),zad _,zab f,hlt f,?_⟩;exact zbt f0 (by omega) hbX fun Z fZ bZ=>⟨relC (zhF m.toNat x),zad _,zab fZ,rfl,bZ⟩
end
section
variable {w:World}
theorem zfW {r:RelD} {n a:Nat} (hr:WrdR r.to) (hn:r.n=n) (h48:n<=48) (ha:a<48):CB 47 #[.agg (relC r).toArray,i64 (a:Nat)] w (i64 (zb1 r a:Nat)):=by
 refine cofM 20 [.agg (relC r).toArray,i64 (a:Nat)] (.c .p .p) Tryz.func47 ?_;obtain⟨L,hL⟩:=nm (w.heap.size);refine⟨Unit,fun _=>⟨[(1,i64 (a:Nat)),(2,At0 L)],[]⟩,fun _ X=>RelH X L r/\Bw w X,⟨(),⟨.cons rfl (.cons (by rw [hL];rfl) .nil),rfl⟩,by rw [hL];exact hnew w _,(zba w _)⟩,?_⟩;rintro _ X ⟨f,hbX⟩;have hs:zb1 r a=cntQ (fun b=>hasQ r b a) n:=by unfold zb1;rw [hn];rfl
 rw [hs];refine⟨Nat,fun b=>⟨[(1,i64 (a:Nat)),(2,At0 L),(5,i64 (cntQ (fun b=>hasQ r b a) b:Nat)),(6,i64 (b:Nat))],[]⟩,fun b Y=>b<=n/\RelH Y L r/\Bw w Y,fun b=>n-b,0,(cvE rfl rfl),⟨Nat.zero_le _,f,hbX⟩,?_⟩;clear f hbX;clear X;rintro b X ⟨hb,f,hbX⟩;dsimp only;refine⟨i64 r.n,zik f,?_⟩;refine biE (fun hc=>?_) fun hc=>?_
 ·have hc:(b:Int)<r.n:=dT hc;have hbn:b<n:=by omega
  have hcl:cntQ (fun b=>hasQ r b a) b<=b:=by
   unfold cntQ;have:=List.length_filter_le (fun b=>hasQ r b a) (List.range b);rw [List.length_range] at this;exact this
  refine⟨relC r,zad _,zab f,hlt f,?_⟩;refine cmo (zbB (a:=b) (d:=a) hr (by omega) (by omega)) ?_;rintro e Y ⟨rfl,hbY⟩;have bY:=zst hbX hbY;have f:=zaa hbY f;refine biE (fun h=>?_) fun h=>?_
  ·have h:hasQ r b a=true:=h;have e1:cntQ (fun b=>hasQ r b a) (b+1)=cntQ (fun b=>hasQ r b a) b+1:=by rw [za1,if_pos h]
   refine⟨((cntQ (fun b=>hasQ r b a) (b+1):Nat):Int),(zak (by omega)).trans (by omega),?_⟩;refine nxI (by omega) ?_;exact⟨b+1,(cvE rfl rfl),⟨hbn,f,bY⟩,zdc (by omega)⟩
  ·have h:hasQ r b a=false:=h;have e1:cntQ (fun b=>hasQ r b a) (b+1)=cntQ (fun b=>hasQ r b a) b:=by rw [za1,if_neg (by rw [h];decide)];rfl
   refine nxI (by omega) ?_;exact⟨b+1,⟨.cons rfl (.cons rfl (.cons (by rw [e1];rfl) (.cons rfl .nil))),rfl⟩,⟨hbn,f,bY⟩,zdc (by omega)⟩
 ·have hc:¬ (b:Int)<r.n:=dF hc;obtain rfl:b=n:=by omega
  exact⟨rfl,hbX⟩
theorem zh3 {r:RelD} {n a:Nat} (hr:WrdR r.to) (hn:r.n=n) (h48:n<=48) (ha:a<48):CB 48 #[.agg (relC r).toArray,i64 (a:Nat)] w (i64 (zcd r a:Nat)):=by
 refine cofM 20 [.agg (relC r).toArray,i64 (a:Nat)] (.c .p .p) Tryz.func48 ?_;obtain⟨L,hL⟩:=nm (w.heap.size);refine⟨Unit,fun _=>⟨[(1,i64 (a:Nat)),(2,At0 L)],[]⟩,fun _ X=>RelH X L r/\Bw w X,⟨(),⟨.cons rfl (.cons (by rw [hL];rfl) .nil),rfl⟩,by rw [hL];exact hnew w _,(zba w _)⟩,?_⟩;rintro _ X ⟨f,hbX⟩;have hs:zcd r a=cntQ (fun b=>hasQ r a b) n:=by unfold zcd;rw [hn];rfl
 rw [hs];refine⟨Nat,fun b=>⟨[(1,i64 (a:Nat)),(2,At0 L),(5,i64 (cntQ (fun b=>hasQ r a b) b:Nat)),(6,i64 (b:Nat))],[]⟩,fun b Y=>b<=n/\RelH Y L r/\Bw w Y,fun b=>n-b,0,(cvE rfl rfl),⟨Nat.zero_le _,f,hbX⟩,?_⟩;clear f hbX;clear X;rintro b X ⟨hb,f,hbX⟩;dsimp only;refine⟨i64 r.n,zik f,?_⟩;refine biE (fun hc=>?_) fun hc=>?_
 ·have hc:(b:Int)<r.n:=dT hc;have hbn:b<n:=by omega
  have hcl:cntQ (fun b=>hasQ r a b) b<=b:=by
   unfold cntQ;have:=List.length_filter_le (fun b=>hasQ r a b) (List.range b);rw [List.length_range] at this;exact this
  refine⟨relC r,zad _,zab f,hlt f,?_⟩;refine cmo (zbB (a:=a) (d:=b) hr (by omega) (by omega)) ?_;rintro e Y ⟨rfl,hbY⟩;have bY:=zst hbX hbY;have f:=zaa hbY f;refine biE (fun h=>?_) fun h=>?_
  ·have h:hasQ r a b=true:=h;have e1:cntQ (fun b=>hasQ r a b) (b+1)=cntQ (fun b=>hasQ r a b) b+1:=by rw [za1,if_pos h]
   refine⟨((cntQ (fun b=>hasQ r a b) (b+1):Nat):Int),(zak (by omega)).trans (by omega),?_⟩;refine nxI (by omega) ?_;exact⟨b+1,(cvE rfl rfl),⟨hbn,f,bY⟩,zdc (by omega)⟩
  ·have h:hasQ r a b=false:=h;have e1:cntQ (fun b=>hasQ r a b) (b+1)=cntQ (fun b=>hasQ r a b) b:=by rw [za1,if_neg (by rw [h];decide)];rfl
   refine nxI (by omega) ?_;exact⟨b+1,⟨.cons rfl (.cons rfl (.cons (by rw [e1];rfl) (.cons rfl .nil))),rfl⟩,⟨hbn,f,bY⟩,zdc (by omega)⟩
 ·have hc:¬ (b:Int)<r.n:=dF hc;obtain rfl:b=n:=by omega
  exact⟨rfl,hbX⟩
theorem zhz {x:ExD} {q:Option Addr} {c a loc:Nat} (hv:SlR evE w q x.ev) (ha:a<x.ev.length):Calls Tryz.prog 93 #[.slice q x.ev.length c,i64 (a:Nat),i64 (loc:Nat)] w fun e w'=>e = .returned (.bool (zcc x a loc))/\w=w':=by
 refine cofE 23 [.slice q x.ev.length c,i64 (a:Nat),i64 (loc:Nat)] Tryz.func93 ?_;obtain⟨bq,oq,hqe,hb,hat⟩:=zdo hv ha;subst hqe;refine⟨a,rfl,ha,?_⟩;refine⟨u8 (evA x a).k,by have:=zac hat (i:=1) (v:=u8 (evA x a).k) rfl;exact this,?_⟩;refine biE (fun h=>?_) fun h=>?_
 ·have h:decide ((evA x a).k=2)=true:=(zbc (x:=(evA x a).k) (y:=2)).symm.trans h;refine⟨a,rfl,ha,?_⟩;refine⟨u8 (evA x a).l,by have:=zac hat (i:=2) (v:=u8 (evA x a).l) rfl;exact this,?_⟩;refine⟨((evA x a).l.toNat:Int),zaP _,?_⟩;refine⟨rb ?_,rfl⟩;unfold zcc isW;rw [h,Bool.true_and];exact decide_eq_decide.2 Int.ofNat_inj
 ·have h:decide ((evA x a).k=2)=false:=(zbc (x:=(evA x a).k) (y:=2)).symm.trans h;refine⟨rb ?_,rfl⟩;unfold zcc isW;rw [h];rfl
end
theorem zlJ (u:Nat):IntKind.u8.wrap (u:Int)=((UInt8.ofNat u).toNat:Int):=by
 have:=UInt8.toNat_ofNat' (n:=u);simp [IntKind.wrap,IntKind.bits,IntKind.signed] at this ⊢
 try omega
theorem zmR {ev:List Ev} {k:Nat} (hk:k<ev.length):hdGo k (ev.drop k)=if (ev.getD k ev0).th = -1 then (if ev.getD k ev0=⟨-1,2,UInt8.ofNat k,(ev.getD k ev0).v,0,0,0⟩ then hdGo (k+1) (ev.drop (k+1)) else none) else some k:=by
 have e:ev.drop k=ev.getD k ev0::ev.drop (k+1):=by
  rw [gDe,gE hk];exact (List.getElem_cons_drop hk).symm
 rw [e];rfl
theorem zou (ev:List Ev):hdGo ev.length (ev.drop ev.length)=some ev.length:=by
 rw [List.drop_length];rfl
theorem ziM {ev:List Ev} {l:Nat} (h:hdGo 0 ev=some l) (hb:l<1\/6<l\/48<ev.length):zbS ev=none:=by
 unfold zbS;rw [h];exact if_pos hb
theorem zln {ev:List Ev} {l j:Nat} (h:hdGo 0 ev=some l) (hj:j<ev.length-l) (hb:zdP ev l j=false):zbS ev=none:=by
 unfold zbS;rw [h];dsimp only
 split
 ·rfl
 ·rw [if_neg];intro ha;rw [List.all_eq_true] at ha;have:=ha j (List.mem_range.2 hj);rw [hb] at this
  cases this
theorem zlm {ev:List Ev} {l:Nat} (h:hdGo 0 ev=some l) (hb:¬ (l<1\/6<l\/48<ev.length)) (ha:∀ j,j<ev.length-l->zdP ev l j=true):zbS ev=some l:=by
 unfold zbS;rw [h];dsimp only;rw [if_neg hb,if_pos];rw [List.all_eq_true];exact fun j hj=>ha j (List.mem_range.1 hj)
theorem zja {x:UInt8} {n:Nat} (h:n<256):x=UInt8.ofNat n↔x.toNat=n:=by
 rw [<- UInt8.toNat_inj,UInt8.toNat_ofNat',Nat.mod_eq_of_lt h]
theorem zmK {e:Ev} {k:Nat}:zgl e k=true↔1<=e.k.toNat/\e.k.toNat<=3/\(e.k.toNat=3->e.l.toNat=0/\e.v.toNat=0)/\(e.k.toNat<3->e.l.toNat<k):=by
 have h3:e.k=3↔e.k.toNat=3:=zja (n:=3) (by decide);have hl:e.l=0↔e.l.toNat=0:=zja (n:=0) (by decide);have hv:e.v=0↔e.v.toNat=0:=zja (n:=0) (by decide);unfold zgl;simp only [bAT,Bool.or_eq_true,Bool.not_eq_true',dE,decide_eq_false_iff_not,h3,hl,hv];omega
def zgP (ev:List Ev):Value:=match zbS ev with
 | none=>i64 (-1)
 | some l=>i64 (l:Nat)
theorem ziS {ev:List Ev} {q:Option Addr} {X:World} (hv:SlR evE X q ev) (h:0<ev.length):∃ bq oq,q=some ⟨bq,oq,none⟩/\bq<X.heap.size/\∀ i,i<ev.length->zaw X ⟨bq,oq+i*7,none⟩ (evE.enc (ev.getD i ev0)):=by
 obtain⟨b,o,hq,hb,hat⟩:=hv.at h;refine⟨b,o,hq,hb,fun i hi=>?_⟩;have:=hat i hi;rw [gDe,gE hi];exact this
section
variable {w:World} {c:Nat} {ev:List Ev} {q:Option Addr}
theorem zot (hv:SlR evE w q ev) (h48:ev.length<=48):CB 45 #[.slice q ev.length c] w (zgP ev):=by
 refine cofM 134 [.slice q ev.length c] (.c .p (.c .p (.c .p (.c .p .p)))) Tryz.func45 ?_;have ret:∀ {X:World},Bw w X->zbS ev=none->(Ending.returned (i64 (-1))=Ending.returned (zgP ev)/\Bw w X):=fun {X} hb h=>⟨by unfold zgP;rw [h],hb⟩;refine⟨Unit,fun _=>⟨[(0,.slice q ev.length c)],[]⟩,fun _ X=>w=X,⟨(),(cvE rfl rfl),rfl⟩,?_⟩;rintro _ _ rfl;refine⟨Unit,fun _=>⟨[(0,.slice q ev.length c),(3,i64 (0:Nat))],[]⟩,fun _ X=>w=X,⟨(),(cvE rfl rfl),rfl⟩,?_⟩;rintro _ _ rfl;refine⟨Nat,fun k=>⟨[(0,.slice q ev.length c),(3,i64 (k:Nat))],[]⟩,fun k X=>k<=ev.length/\hdGo 0 ev=some k/\Bw w X,?_,?_⟩
 ·refine⟨Nat,fun k=>⟨[(0,.slice q ev.length c),(3,i64 (k:Nat))],[]⟩,fun k X=>k<=ev.length/\hdGo 0 ev=hdGo k (ev.drop k)/\Bw w X,fun k=>ev.length-k,0,(cvE rfl rfl),⟨Nat.zero_le _,by rw [List.drop_zero],Below.refl _ _⟩,?_⟩;rintro k X ⟨hk,hg,hbX⟩;dsimp only;refine biE (fun hc=>?_) fun hc=>?_
  ·have hc:(k:Int)<(ev.length:Int):=dT hc;have hkl:k<ev.length:=by omega
   obtain⟨bq,oq,hqe,hbq,hat⟩:=ziS hv (by omega);subst hqe;obtain⟨e,he⟩:=nm (ev.getD k ev0);have hatk:=hat k hkl;have hst:=zmR hkl;rw [<- he] at hatk hst;refine⟨k,rfl,hkl,?_⟩;refine⟨i64 e.th,by have:=zac (zae hbX hatk) (i:=0) (v:=i64 e.th) rfl;exact this,?_⟩;refine biE (fun h1=>?_) fun h1=>?_
   ·have h1:e.th = -1:=dT h1;rw [if_pos h1] at hst;have dX:Bw X X.drew:=(Below.refl _ _).drew;have hbD:=zst hbX dX;refine DrawE.ord [] [0,1,2,3,4,5,6,7,8,9,10,11,12] (by kernel_rfl) ?_;refine⟨k,rfl,hkl,?_⟩;refine⟨evE.enc e,rfl,zae hbD hatk,nL hbq hbD.size,?_⟩;refine⟨((UInt8.ofNat k).toNat:Int),zlJ k,?_⟩;refine⟨k,rfl,hkl,?_⟩;refine⟨u8 e.v,by have:=zac (zae hbD hatk) (i:=3) (v:=u8 e.v) rfl;exact this,?_⟩;refine⟨evE.enc ⟨-1,2,UInt8.ofNat k,e.v,0,0,0⟩,by kernel_rfl,?_⟩;refine⟨_,fun w=>zo4 _ _ e ⟨-1,2,UInt8.ofNat k,e.v,0,0,0⟩ w,?_⟩;refine biE (fun h2=>?_) fun h2=>?_
    ·have h2:¬ e=⟨-1,2,UInt8.ofNat k,e.v,0,0,0⟩:=dF (notB h2);rw [if_neg h2] at hst;exact ret hbD (by unfold zbS;rw [hg,hst])
    ·have h2:e=⟨-1,2,UInt8.ofNat k,e.v,0,0,0⟩:=dT (notF h2);rw [if_pos h2] at hst;refine nxI (by omega) ?_;exact⟨k+1,(cvE rfl rfl),⟨hkl,hg.trans hst,hbD⟩,zdc (by omega)⟩
   ·have h1:¬ e.th = -1:=dF h1;rw [if_neg h1] at hst;exact⟨k,(cvE rfl rfl),hk,hg.trans hst,hbX⟩
  ·have hc:¬ (k:Int)<(ev.length:Int):=dF hc;obtain rfl:k=ev.length:=by omega
   refine brF ?_;exact⟨ev.length,(cvE rfl rfl),hk,hg.trans (zou ev),hbX⟩
 rintro k X ⟨hk,hg,hbX⟩;refine⟨Unit,fun _=>⟨[(0,.slice q ev.length c),(3,i64 (k:Nat))],[]⟩,fun _ Y=>(1<=k/\k<=6)/\X=Y,?_,?_⟩
 ·refine biE (fun h1=>?_) fun h1=>?_
  ·have h1:(k:Int)<1:=dT h1;refine brT ?_;refine brT ?_;exact ret hbX (ziM hg (by omega))
  have h1:¬ (k:Int)<1:=dF h1;refine biE (fun h2=>?_) fun h2=>?_
  ·have h2:(6:Int)<(k:Int):=dT h2;refine brT ?_;exact ret hbX (ziM hg (by omega))
  have h2:¬ (6:Int)<(k:Int):=dF h2;refine brN (decide_eq_false (by omega)) ?_;exact⟨(),(cvE rfl rfl),by omega,rfl⟩
 rintro _ _ ⟨⟨k1,k6⟩,rfl⟩;obtain⟨bq,oq,hqe,hbq,hat⟩:∃ bq oq,q=some ⟨bq,oq,none⟩/\bq<w.heap.size/\∀ i,i<ev.length->zaw w ⟨bq,oq+i*7,none⟩ (evE.enc (ev.getD i ev0)):=ziS hv (by omega);subst hqe;refine⟨Nat,fun i=>⟨[(0,.slice (some ⟨bq,oq,none⟩) ev.length c),(3,i64 (k:Nat)),(4,i64 (i:Nat))],[]⟩,fun i X=>(k<=i/\i<=ev.length)/\(∀ j,j<i-k->zdP ev k j=true)/\Bw w X,fun i=>ev.length-i,k,(cvE rfl rfl),⟨by omega,fun j hj=>by omega,hbX⟩,?_⟩;clear hbX;clear X;rintro i X ⟨⟨hki,hi⟩,hall,hbX⟩;dsimp only;refine biE (fun hc=>?_) fun hc=>?_
 ·have hc:(i:Int)<(ev.length:Int):=dT hc;have hil:i<ev.length:=by omega
  obtain⟨e,he⟩:=nm (ev.getD i ev0);have hati:=hat i hil;rw [<- he] at hati;have bad:∀ {Y:World},Bw w Y->zdP ev k (i-k)=false->(Ending.returned (i64 (-1))=Ending.returned (zgP ev)/\Bw w Y):=fun {Y} hb h=>ret hb (zln hg (by omega) h);refine⟨i,rfl,hil,?_⟩;refine⟨evE.enc e,rfl,zae hbX hati,nL hbq hbX.size,?_⟩;obtain⟨M,hM⟩:=nm (X.heap.size);refine zan (X:=X) (v := .agg (evE.enc e).toArray) k54 rfl rfl (List.all_eq_true.2 fun u hu=>evE.one e u hu) fun Y hbY fY sY=>?_;replace fY:Y.heap[M]?=some (.cells (evE.enc e).toArray 54 (0,0)):=by rw [hM];exact fY
  have hbY2:=zst hbX hbY;have hei:ev.getD (k+(i-k)) ev0=e:=by rw [show k+(i-k)=i by omega,he]
  have spec:zdP ev k (i-k)=(((List.range (i-k)).all fun t=>decide ((ev.getD (k+t) ev0).th<=e.th))&&(decide (0<=e.th)&&(decide (e.th<=3)&&(decide (e.p.toNat=cntQ (fun t=>decide ((ev.getD (k+t) ev0).th=e.th)) (i-k))&&zgl e k)))):=by
   unfold zdP;rw [hei]
  refine⟨Nat,fun u=>⟨[(0,.slice (some ⟨bq,oq,none⟩) ev.length c),(3,i64 (k:Nat)),(4,i64 (i:Nat)),(5,At0 M),(6,i64 (cntQ (fun t=>decide ((ev.getD (k+t) ev0).th=e.th)) (u-k):Nat)),(7,i64 (u:Nat))],[]⟩,fun u Z=>(k<=u/\u<=i)/\(∀ t,t<u-k->(ev.getD (k+t) ev0).th<=e.th)/\Z.heap[M]?=some (.cells (evE.enc e).toArray 54 (0,0))/\Bw w Z,fun u=>i-u,k,⟨.cons rfl (.cons rfl (.cons rfl (.cons (by rw [hM];rfl) (.cons (by rw [Nat.sub_self];rfl) (.cons rfl .nil))))),rfl⟩,⟨by omega,fun t ht=>by omega,fY,hbY2⟩,?_⟩;clear hM hbX hbY fY sY hbY2;clear Y X;rintro u X ⟨⟨hku,hui⟩,hle,fM,hbX⟩;dsimp only;have dX:Bw X X.drew:=(Below.refl _ _).drew;have hbD:=zst hbX dX;refine biE (fun hc=>?_) fun hc=>?_
  ·have hc:(u:Int)<(i:Int):=dT hc;have hul:u<i:=by omega
   obtain⟨g,hge⟩:=nm (ev.getD u ev0);have hatu:=hat u (by omega);rw [<- hge] at hatu;have hgu:ev.getD (k+(u-k)) ev0=g:=by rw [show k+(u-k)=u by omega,hge]
   have hsu:u+1-k=(u-k)+1:=by omega
   have hcl:cntQ (fun t=>decide ((ev.getD (k+t) ev0).th=e.th)) (u-k)<=u-k:=by
    unfold cntQ;have:=List.length_filter_le (fun t=>decide ((ev.getD (k+t) ev0).th=e.th)) (List.range (u-k));rw [List.length_range] at this;exact this
   have fD:=zaa dX fM;have late:∀ {n:Nat},n=cntQ (fun t=>decide ((ev.getD (k+t) ev0).th=e.th)) (u+1-k)->g.th<=e.th->(∀ t,t<u+1-k->(ev.getD (k+t) ev0).th<=e.th):=fun {n} _ h t ht=>by
    by_cases e2:t=u-k
    ·rw [e2,hgu];exact h
    ·exact hle t (by omega)
   have worse:¬ g.th<=e.th->zdP ev k (i-k)=false:=fun h=>by
    rw [spec];have:((List.range (i-k)).all fun t=>decide ((ev.getD (k+t) ev0).th<=e.th))=false:=by
     rw [List.all_eq_false];exact⟨u-k,List.mem_range.2 (by omega),by rw [hgu,decide_eq_false h];decide⟩
    rw [this];rfl
   refine DrawE.ord [] [0,1,2,3,4,5,6,7] (by kernel_rfl) ?_;refine⟨u,rfl,by omega,?_⟩;refine⟨i64 g.th,by have:=zac (zae hbD hatu) (i:=0) (v:=i64 g.th) rfl;exact this,?_⟩;refine⟨i64 e.th,zac (zab fD) (i:=0) rfl,?_⟩;have dD:Below X.drew.heap.size X.drew X.drew.drew:=(Below.refl _ _).drew;have hbE:=zst hbD dD;have fE:=zaa dD fD;refine biE (fun h1=>?_) fun h1=>?_
   ·have h1:g.th=e.th:=dT h1;have e1:cntQ (fun t=>decide ((ev.getD (k+t) ev0).th=e.th)) (u+1-k)=cntQ (fun t=>decide ((ev.getD (k+t) ev0).th=e.th)) (u-k)+1:=by
     rw [hsu,za1,if_pos (by rw [hgu];exact decide_eq_true h1)]
    refine⟨((cntQ (fun t=>decide ((ev.getD (k+t) ev0).th=e.th)) (u+1-k):Nat):Int),(zak (by omega)).trans (by omega),?_⟩;refine DrawE.ord [] [0,1,2,3,4,5,6,7] (by kernel_rfl) ?_;refine⟨u,rfl,by omega,?_⟩;refine⟨i64 g.th,by have:=zac (zae hbE hatu) (i:=0) (v:=i64 g.th) rfl;exact this,?_⟩;refine⟨i64 e.th,zac (zab fE) (i:=0) rfl,?_⟩;refine brN (decide_eq_false (by omega)) ?_;refine nxI (by omega) ?_;exact⟨u+1,(cvE rfl rfl),⟨by omega,late rfl (by omega),fE,hbE⟩,zdc (by omega)⟩
   ·have h1:¬ g.th=e.th:=dF h1;have e1:cntQ (fun t=>decide ((ev.getD (k+t) ev0).th=e.th)) (u+1-k)=cntQ (fun t=>decide ((ev.getD (k+t) ev0).th=e.th)) (u-k):=by
     rw [hsu,za1,if_neg (by rw [hgu,decide_eq_false h1];decide)];rfl
    refine DrawE.ord [] [0,1,2,3,4,5,6,7] (by kernel_rfl) ?_;refine⟨u,rfl,by omega,?_⟩;refine⟨i64 g.th,by have:=zac (zae hbE hatu) (i:=0) (v:=i64 g.th) rfl;exact this,?_⟩;refine⟨i64 e.th,zac (zab fE) (i:=0) rfl,?_⟩;refine biE (fun h2=>?_) fun h2=>?_
    ·have h2:e.th<g.th:=dT h2;exact bad hbE (worse (by omega))
    ·have h2:¬ e.th<g.th:=dF h2;refine nxI (by omega) ?_;exact⟨u+1,⟨.cons rfl (.cons rfl (.cons rfl (.cons rfl (.cons (by rw [<- e1];rfl) (.cons rfl .nil))))),rfl⟩,⟨by omega,late rfl (by omega),fE,hbE⟩,zdc (by omega)⟩
  ·have hc:¬ (u:Int)<(i:Int):=dF hc;obtain rfl:u=i:=by omega
   have hle2:((List.range (u-k)).all fun t=>decide ((ev.getD (k+t) ev0).th<=e.th))=true:=by
    rw [List.all_eq_true];exact fun t ht=>decide_eq_true (hle t (List.mem_range.1 ht))
   rw [hle2,Bool.true_and] at spec;obtain⟨cn,hcn⟩:=nm (cntQ (fun t=>decide ((ev.getD (k+t) ev0).th=e.th)) (u-k));rw [<- hcn] at spec ⊢;have spec2:zdP ev k (u-k)=true↔0<=e.th/\e.th<=3/\e.p.toNat=cn/\1<=e.k.toNat/\e.k.toNat<=3/\(e.k.toNat=3->e.l.toNat=0/\e.v.toNat=0)/\(e.k.toNat<3->e.l.toNat<k):=by
    rw [spec];simp only [bAT,dE,zmK]
   refine⟨_,zpi fM,?_⟩;refine biE (fun h1=>?_) fun h1=>?_
   ·refine brT ?_;refine brT ?_;refine brT ?_;refine brT ?_;refine brT ?_;refine brT ?_;simp only [dE,decide_eq_false_iff_not,Bool.not_eq_true',Bool.not_eq_false'] at h1;exact bad hbX (Bool.eq_false_iff.2 fun hx=>by have:=spec2.1 hx;omega)
   ·refine⟨_,zpi fM,?_⟩;refine biE (fun h2=>?_) fun h2=>?_
    ·refine brT ?_;refine brT ?_;refine brT ?_;refine brT ?_;refine brT ?_;simp only [dE,decide_eq_false_iff_not,Bool.not_eq_true',Bool.not_eq_false'] at h1 h2;exact bad hbX (Bool.eq_false_iff.2 fun hx=>by have:=spec2.1 hx;omega)
    ·refine⟨_,zsS fM,?_⟩;refine⟨(e.p.toNat:Int),zaP _,?_⟩;refine biE (fun h3=>?_) fun h3=>?_
     ·have h3:=notB h3;refine brT ?_;refine brT ?_;refine brT ?_;refine brT ?_;simp only [dE,decide_eq_false_iff_not,Bool.not_eq_true',Bool.not_eq_false'] at h1 h2 h3;exact bad hbX (Bool.eq_false_iff.2 fun hx=>by have:=spec2.1 hx;omega)
     ·have h3:=notF h3;refine⟨_,zbA fM,?_⟩;refine biE (fun h4=>?_) fun h4=>?_
      ·refine brT ?_;refine brT ?_;refine brT ?_;simp only [dE,decide_eq_false_iff_not,Bool.not_eq_true',Bool.not_eq_false'] at h1 h2 h3 h4;exact bad hbX (Bool.eq_false_iff.2 fun hx=>by have:=spec2.1 hx;omega)
      ·refine⟨_,zbA fM,?_⟩;refine biE (fun h5=>?_) fun h5=>?_
       ·refine brT ?_;refine brT ?_;simp only [dE,decide_eq_false_iff_not,Bool.not_eq_true',Bool.not_eq_false'] at h1 h2 h3 h4 h5;exact bad hbX (Bool.eq_false_iff.2 fun hx=>by have:=spec2.1 hx;omega)
       ·refine⟨_,zbA fM,?_⟩;refine biE (fun h6=>?_) fun h6=>?_
        ·refine⟨_,zm9 fM,?_⟩;refine biE (fun h7=>?_) fun h7=>?_
         ·have h7:=notB h7;refine brT ?_;refine brT ?_;simp only [dE,decide_eq_false_iff_not,Bool.not_eq_true',Bool.not_eq_false'] at h1 h2 h3 h4 h5 h6 h7;exact bad hbX (Bool.eq_false_iff.2 fun hx=>by have:=spec2.1 hx;omega)
         ·have h7:=notF h7;refine⟨_,zsR fM,?_⟩;refine biE (fun h8=>?_) fun h8=>?_
          ·have h8:=notB h8;refine brT ?_;simp only [dE,decide_eq_false_iff_not,Bool.not_eq_true',Bool.not_eq_false'] at h1 h2 h3 h4 h5 h6 h7 h8;exact bad hbX (Bool.eq_false_iff.2 fun hx=>by have:=spec2.1 hx;omega)
          ·have h8:=notF h8;refine⟨_,zbA fM,?_⟩;refine biE (fun h9=>?_) fun h9=>?_
           ·refine⟨_,zm9 fM,?_⟩;refine⟨(e.l.toNat:Int),zaP _,?_⟩;refine biE (fun h10=>?_) fun h10=>?_
            ·simp only [dE,decide_eq_false_iff_not,Bool.not_eq_true',Bool.not_eq_false'] at h1 h2 h3 h4 h5 h6 h7 h8 h9 h10;exact bad hbX (Bool.eq_false_iff.2 fun hx=>by have:=spec2.1 hx;omega)
            ·simp only [dE,decide_eq_false_iff_not,Bool.not_eq_true',Bool.not_eq_false'] at h1 h2 h3 h4 h5 h6 h7 h8 h9 h10;have one:zdP ev k (u-k)=true:=spec2.2 ⟨by omega,by omega,by omega,by omega,by omega,fun _=>⟨by omega,by omega⟩,fun _=>by omega⟩;refine nxI (by omega) ?_;exact⟨u+1,(cvE rfl rfl),⟨by omega,fun j hj=>by
              by_cases e2:j=u-k
              ·rw [e2];exact one
              ·exact hall j (by omega),hbX⟩,zdc (by omega)⟩
           ·refine brF ?_;simp only [dE,decide_eq_false_iff_not,Bool.not_eq_true',Bool.not_eq_false'] at h1 h2 h3 h4 h5 h6 h7 h8 h9;have one:zdP ev k (u-k)=true:=spec2.2 ⟨by omega,by omega,by omega,by omega,by omega,fun _=>⟨by omega,by omega⟩,fun _=>by omega⟩;refine nxI (by omega) ?_;exact⟨u+1,(cvE rfl rfl),⟨by omega,fun j hj=>by
             by_cases e2:j=u-k
             ·rw [e2];exact one
             ·exact hall j (by omega),hbX⟩,zdc (by omega)⟩
        ·refine brF ?_;refine⟨_,zbA fM,?_⟩;refine biE (fun h11=>?_) fun h11=>?_
         ·refine⟨_,zm9 fM,?_⟩;refine⟨(e.l.toNat:Int),zaP _,?_⟩;refine biE (fun h12=>?_) fun h12=>?_
          ·simp only [dE,decide_eq_false_iff_not,Bool.not_eq_true',Bool.not_eq_false'] at h1 h2 h3 h4 h5 h6 h11 h12;exact bad hbX (Bool.eq_false_iff.2 fun hx=>by have:=spec2.1 hx;omega)
          ·simp only [dE,decide_eq_false_iff_not,Bool.not_eq_true',Bool.not_eq_false'] at h1 h2 h3 h4 h5 h6 h11 h12;have one:zdP ev k (u-k)=true:=spec2.2 ⟨by omega,by omega,by omega,by omega,by omega,fun _=>⟨by omega,by omega⟩,fun _=>by omega⟩;refine nxI (by omega) ?_;exact⟨u+1,(cvE rfl rfl),⟨by omega,fun j hj=>by
            by_cases e2:j=u-k
            ·rw [e2];exact one
            ·exact hall j (by omega),hbX⟩,zdc (by omega)⟩
         ·refine brF ?_;simp only [dE,decide_eq_false_iff_not,Bool.not_eq_true',Bool.not_eq_false'] at h1 h2 h3 h4 h5 h6 h11;have one:zdP ev k (u-k)=true:=spec2.2 ⟨by omega,by omega,by omega,by omega,by omega,fun _=>⟨by omega,by omega⟩,fun _=>by omega⟩;refine nxI (by omega) ?_;exact⟨u+1,(cvE rfl rfl),⟨by omega,fun j hj=>by
           by_cases e2:j=u-k
           ·rw [e2];exact one
           ·exact hall j (by omega),hbX⟩,zdc (by omega)⟩
 ·have hc:¬ (i:Int)<(ev.length:Int):=dF hc;obtain rfl:i=ev.length:=by omega
  refine⟨?_,hbX⟩;unfold zgP;rw [zlm hg (by omega) fun j hj=>hall j (by omega)];rfl
end
def pl1 (x:ExD) (l a:Nat):Bool:=decide (zb1 x.co a+zcd x.co a+1=zlh x l)&&(!hasQ x.co a a&&((!decide (a=l)||decide (zb1 x.co a=0))&&(!decide (zcd x.co a=0)||decide (x.mem l=(evA x a).v))))
def pl2 (x:ExD) (l a b:Nat):Bool := !(!decide (b=a)&&zcc x b l) || !(hasQ x.co a b == hasQ x.co b a)
def pl3 (x:ExD) (a b c:Nat):Bool := !(hasQ x.co a b&&hasQ x.co b c)||hasQ x.co a c
def plB (x:ExD) (l a b:Nat):Bool:=pl2 x l a b&&(List.range x.ev.length).all fun c=>pl3 x a b c
def plA (x:ExD) (l a:Nat):Bool := !zcc x a l||(pl1 x l a&&(List.range x.ev.length).all fun b=>plB x l a b)
def plL (x:ExD) (locs l:Nat):Bool:=if locs<=l then decide (x.mem l=0) else (List.range x.ev.length).all fun a=>plA x l a
theorem zoa (x:ExD) (locs:Nat):zf5 x locs=(List.range 6).all fun l=>plL x locs l:=rfl
theorem zdg {n i:Nat} {f:Nat->Bool} (hi:i<n) (h:f i=false):(List.range n).all f=false:=by
 rw [List.all_eq_false];exact⟨i,List.mem_range.2 hi,by rw [h];decide⟩
theorem zdI {n:Nat} {f:Nat->Bool} (h:∀ i,i<n->f i=true):(List.range n).all f=true:=by
 rw [List.all_eq_true];exact fun i hi=>h i (List.mem_range.1 hi)
theorem zbz {k:Nat} {f:Nat->Bool} (h:∀ i,i<k->f i=true) (hk:f k=true):∀ i,i<k+1->f i=true:=fun i hi=>by
 by_cases e:i=k
 ·rw [e];exact hk
 ·exact h i (by omega)
theorem zkD (f:Nat->Bool) (n:Nat):cntQ f n<=n:=by
 unfold cntQ;have:=List.length_filter_le f (List.range n);rw [List.length_range] at this;exact this
theorem znd {a b m:Nat}:decide (((a:Nat):Int)+((b:Nat):Int)=((m:Nat):Int)-1)=decide (a+b+1=m):=decide_eq_decide.2 (by omega)
theorem zer {a b:Nat}:decide ((a:Int)=(b:Int))=decide (a=b):=decide_eq_decide.2 Int.ofNat_inj
theorem zne {a:Nat}:decide ((0:Int)<(a:Int)) = !decide (a=0):=by
 rw [<- decide_not];exact decide_eq_decide.2 (by omega)
theorem zaH (a b:Bool):(a == b)=decide (a=b):=by cases a <;> cases b <;> rfl
theorem zjH {X:World} {b:Nat} {x:ExD} {q:Option Addr} {c l:Nat} (fx:zaw X ⟨b,0,none⟩ (exC x q c)) (hl:l<6):X.cell? ⟨b,0+295+32+l*1,none⟩=some (u8 (x.mem l)):=by
 have h:=zmZ (x:=x) q c;have h2:(exC x q c)[327+l]?=some (u8 (x.mem l)):=by
  have h3:(((exC x q c).drop 327).take 6)[l]?=some (u8 (x.mem l)):=by
   rw [h];unfold seg;rw [List.getElem?_map,List.getElem?_range hl];rfl
  rw [List.getElem?_take_of_lt hl,List.getElem?_drop] at h3;exact h3
 have h4:=zac fx h2;rw [show 0+(327+l)=0+295+32+l*1 by omega] at h4;exact h4
section
variable {w:World} {c:Nat} {x:ExD} {q:Option Addr}
theorem zn9 {locs:Nat} (hv:ExV w x q) (hpos:0<x.ev.length) (hco:x.co.n=x.ev.length) (hl6:locs<=6):CB 49 #[.agg (exC x q c).toArray,i64 (locs:Nat)] w (.bool (zf5 x locs)):=by
 obtain⟨bq,oq,hqe,hbq,hat⟩:=zdZ hv.ev hpos;subst hqe;have h16:=hv.n;rw [zoa];refine cofM 153 [.agg (exC x (some ⟨bq,oq,none⟩) c).toArray,i64 (locs:Nat)] (.c .p (.c .p (.s (.s .p (.b (.l (.s .p (.s (.b (.c .p (.c .p (.c .p (.s .p (.b (.l (.s .p (.s (.b (.c .p (.c .p (.c .p (.s .p (.b (.l (.s .p (.s (.b (.c .p .p)) .p))))))))) .p))))))))) .p))))) .p))) Tryz.func49 ?_;obtain⟨L,hL⟩:=nm (w.heap.size);refine⟨Unit,fun _=>⟨[(1,i64 (locs:Nat)),(2,At0 L)],[]⟩,fun _ X=>ExH X L x (some ⟨bq,oq,none⟩) c/\Bw w X,⟨(),⟨.cons rfl (.cons (by rw [hL];rfl) .nil),rfl⟩,by rw [hL];exact hnew w _,(zba w _)⟩,?_⟩;rintro _ X ⟨fX,hbX⟩;refine⟨Unit,fun _=>⟨[(1,i64 (locs:Nat)),(2,At0 L),(5,.slice (some ⟨bq,oq,none⟩) x.ev.length c),(6,i64 x.ev.length)],[]⟩,fun _ Z=>ExH Z L x (some ⟨bq,oq,none⟩) c/\Bw w Z,?_,?_⟩
 ·have dX:Bw X X.drew:=(Below.refl _ _).drew;refine DrawE.ord [] [0,1,2,3,4,5,6] (by kernel_rfl) ?_;have fX:=zaa dX fX;refine⟨_,zax (zab fX),?_⟩;refine⟨_,zax (zab fX),?_⟩;exact⟨(),⟨.cons rfl (.cons rfl (.cons rfl (.cons rfl (.nil)))),rfl⟩,fX,(zst hbX dX)⟩
 clear fX hbX;clear X;rintro _ X ⟨fX,hbX⟩;refine⟨Nat,fun l=>⟨[(1,i64 (locs:Nat)),(2,At0 L),(5,.slice (some ⟨bq,oq,none⟩) x.ev.length c),(6,i64 x.ev.length),(7,i64 (l:Nat))],[]⟩,fun l Z=>l<=6/\(∀ i,i<l->plL x locs i=true)/\ExH Z L x (some ⟨bq,oq,none⟩) c/\Bw w Z,fun l=>6-l,0,⟨.cons rfl (.cons rfl (.cons rfl (.cons rfl (.cons rfl (.nil))))),rfl⟩,⟨Nat.zero_le _,fun i hi=>by omega,fX,hbX⟩,?_⟩;clear fX hbX;rintro l X ⟨hl,hall,fX,hbX⟩;dsimp only;refine biE (fun hc=>?_) fun hc=>?_
 ·have hc:(l:Int)<6:=dT hc;have hln:l<6:=by omega
  refine⟨Unit,fun _=>⟨[(1,i64 (locs:Nat)),(2,At0 L),(5,.slice (some ⟨bq,oq,none⟩) x.ev.length c),(6,i64 x.ev.length),(7,i64 (l:Nat))],[]⟩,fun _ Z=>¬ locs<=l/\ExH Z L x (some ⟨bq,oq,none⟩) c/\Bw w Z,?_,?_⟩
  ·refine biE (fun h1=>?_) fun h1=>?_
   ·have h1:(locs:Int)<=(l:Int):=dT h1;have hs:plL x locs l=decide (x.mem l=0):=if_pos (by omega);refine⟨l,rfl,by omega,?_⟩;refine⟨u8 (x.mem l),zjH (zab fX) (by omega),?_⟩;refine biE (fun h1=>?_) fun h1=>?_
    ·have h1:=zrm.symm.trans (notB h1);exact⟨rb (zdg hln (by rw [hs,h1])).symm,hbX⟩
    ·have h1:=zrm.symm.trans (notF h1);refine nxI (by omega) ?_;exact⟨l+1,⟨.cons rfl (.cons rfl (.cons rfl (.cons rfl (.cons rfl (.nil))))),rfl⟩,⟨hln,zbz hall (by rw [hs,h1]),fX,hbX⟩,zdc (by omega)⟩
   ·have h1:¬ (locs:Int)<=(l:Int):=dF h1;exact⟨(),⟨.cons rfl (.cons rfl (.cons rfl (.cons rfl (.cons rfl (.nil))))),rfl⟩,by omega,fX,hbX⟩
  clear fX hbX;rintro _ X ⟨h1,fX,hbX⟩;have hs:plL x locs l=(List.range x.ev.length).all fun a=>plA x l a:=if_neg h1;refine⟨Unit,fun _=>⟨[(1,i64 (locs:Nat)),(2,At0 L),(5,.slice (some ⟨bq,oq,none⟩) x.ev.length c),(6,i64 x.ev.length),(7,i64 (l:Nat)),(8,i64 (0:Nat))],[]⟩,fun _ Z=>ExH Z L x (some ⟨bq,oq,none⟩) c/\Bw w Z,⟨(),⟨.cons rfl (.cons rfl (.cons rfl (.cons rfl (.cons rfl (.cons rfl (.nil)))))),rfl⟩,fX,hbX⟩,?_⟩;clear fX hbX;rintro _ X ⟨fX,hbX⟩;refine⟨Unit,fun _=>⟨[(1,i64 (locs:Nat)),(2,At0 L),(5,.slice (some ⟨bq,oq,none⟩) x.ev.length c),(6,i64 x.ev.length),(7,i64 (l:Nat)),(8,i64 (zlh x l:Nat))],[]⟩,fun _ Z=>ExH Z L x (some ⟨bq,oq,none⟩) c/\Bw w Z,?_,?_⟩
  ·refine⟨Nat,fun u=>⟨[(1,i64 (locs:Nat)),(2,At0 L),(5,.slice (some ⟨bq,oq,none⟩) x.ev.length c),(6,i64 x.ev.length),(7,i64 (l:Nat)),(8,i64 (cntQ (fun a=>zcc x a l) u:Nat)),(9,i64 (u:Nat))],[]⟩,fun u Z=>u<=x.ev.length/\ExH Z L x (some ⟨bq,oq,none⟩) c/\Bw w Z,fun u=>x.ev.length-u,0,⟨.cons rfl (.cons rfl (.cons rfl (.cons rfl (.cons rfl (.cons rfl (.cons rfl (.nil))))))),rfl⟩,⟨Nat.zero_le _,fX,hbX⟩,?_⟩;clear fX hbX;clear X;rintro u X ⟨hu,fX,hbX⟩;dsimp only;refine biE (fun hc=>?_) fun hc=>?_
   ·have hc:(u:Int)<(x.ev.length:Int):=dT hc;have hun:u<x.ev.length:=(by omega);have hcl:=zkD (fun a=>zcc x a l) u;refine cmo (zhz (x:=x) (a:=u) (loc:=l) (hv.below hbX).ev (by omega)) ?_;rintro e _ ⟨rfl,rfl⟩;refine biE (fun h=>?_) fun h=>?_
    ·have h:zcc x u l=true:=h;have e1:cntQ (fun a=>zcc x a l) (u+1)=cntQ (fun a=>zcc x a l) u+1:=(by rw [za1,if_pos h]);refine⟨((cntQ (fun a=>zcc x a l) (u+1):Nat):Int),(zak (by omega)).trans (by omega),?_⟩;refine nxI (by omega) ?_;exact⟨u+1,⟨.cons rfl (.cons rfl (.cons rfl (.cons rfl (.cons rfl (.cons rfl (.cons rfl (.nil))))))),rfl⟩,⟨hun,fX,hbX⟩,zdc (by omega)⟩
    ·have h:zcc x u l=false:=h;have e1:cntQ (fun a=>zcc x a l) (u+1)=cntQ (fun a=>zcc x a l) u:=(by rw [za1,if_neg (by rw [h];decide)];rfl);refine nxI (by omega) ?_;exact⟨u+1,⟨.cons rfl (.cons rfl (.cons rfl (.cons rfl (.cons rfl (.cons (by rw [e1];rfl) (.cons rfl .nil)))))),rfl⟩,⟨hun,fX,hbX⟩,zdc (by omega)⟩
   ·have hc:¬ (u:Int)<(x.ev.length:Int):=dF hc;have hu2:cntQ (fun a=>zcc x a l) u=zlh x l:=(by rw [show u=x.ev.length by omega];rfl);exact⟨(),⟨.cons rfl (.cons rfl (.cons rfl (.cons rfl (.cons rfl (.cons (by rw [<- hu2];rfl) .nil))))),rfl⟩,fX,hbX⟩
  clear fX hbX;rintro _ X ⟨fX,hbX⟩;obtain⟨many,hmq⟩:∃ many,zlh x l=many:=⟨_,rfl⟩;have hml:many<=x.ev.length:=by rw [<- hmq];exact zkD _ _
  rw [hmq];refine⟨Nat,fun a=>⟨[(1,i64 (locs:Nat)),(2,At0 L),(5,.slice (some ⟨bq,oq,none⟩) x.ev.length c),(6,i64 x.ev.length),(7,i64 (l:Nat)),(8,i64 (many:Nat)),(10,i64 (a:Nat))],[]⟩,fun a Z=>a<=x.ev.length/\(∀ i,i<a->plA x l i=true)/\ExH Z L x (some ⟨bq,oq,none⟩) c/\Bw w Z,fun a=>x.ev.length-a,0,⟨.cons rfl (.cons rfl (.cons rfl (.cons rfl (.cons rfl (.cons rfl (.cons rfl (.nil))))))),rfl⟩,⟨Nat.zero_le _,fun i hi=>by omega,fX,hbX⟩,?_⟩;clear fX hbX;rintro a X ⟨ha,hallA,fX,hbX⟩;dsimp only;refine biE (fun hc=>?_) fun hc=>?_
  ·have hc:(a:Int)<(x.ev.length:Int):=dT hc;have han:a<x.ev.length:=by omega
   refine⟨Unit,fun _=>⟨[(1,i64 (locs:Nat)),(2,At0 L),(5,.slice (some ⟨bq,oq,none⟩) x.ev.length c),(6,i64 x.ev.length),(7,i64 (l:Nat)),(8,i64 (many:Nat)),(10,i64 (a:Nat))],[]⟩,fun _ Z=>zcc x a l=true/\ExH Z L x (some ⟨bq,oq,none⟩) c/\Bw w Z,?_,?_⟩
   ·refine cmo (zhz (x:=x) (a:=a) (loc:=l) (hv.below hbX).ev (by omega)) ?_;rintro e _ ⟨rfl,rfl⟩;refine biE (fun h0=>?_) fun h0=>?_
    ·have h0:zcc x a l=false:=notB h0;refine nxI (by omega) ?_;exact⟨a+1,⟨.cons rfl (.cons rfl (.cons rfl (.cons rfl (.cons rfl (.cons rfl (.cons rfl (.nil))))))),rfl⟩,⟨han,zbz hallA (by unfold plA;rw [h0];rfl),fX,hbX⟩,zdc (by omega)⟩
    ·have h0:zcc x a l=true:=notF h0;exact⟨(),⟨.cons rfl (.cons rfl (.cons rfl (.cons rfl (.cons rfl (.cons rfl (.cons rfl (.nil))))))),rfl⟩,h0,fX,hbX⟩
   clear fX hbX;rintro _ X ⟨h0,fX,hbX⟩;have hpA:plA x l a=(pl1 x l a&&(List.range x.ev.length).all fun b=>plB x l a b):=by unfold plA;rw [h0];rfl
   have hA0:zb1 x.co a<=x.ev.length:=by unfold zb1;rw [hco];exact zkD _ _
   have hB0:zcd x.co a<=x.ev.length:=by unfold zcd;rw [hco];exact zkD _ _
   refine⟨Unit,fun _=>⟨[(1,i64 (locs:Nat)),(2,At0 L),(5,.slice (some ⟨bq,oq,none⟩) x.ev.length c),(6,i64 x.ev.length),(7,i64 (l:Nat)),(8,i64 (many:Nat)),(10,i64 (a:Nat)),(11,i64 (zb1 x.co a:Nat)),(12,i64 (zcd x.co a:Nat))],[]⟩,fun _ Z=>ExH Z L x (some ⟨bq,oq,none⟩) c/\Bw w Z,?_,?_⟩
   ·have dX:Bw X X.drew:=(Below.refl _ _).drew;refine DrawE.ord [] [0,1,2,4,5,6,3,7,8,9] (by kernel_rfl) ?_;have fX:=zaa dX fX;replace hbX:=zst hbX dX;clear dX;refine⟨_,zad _,r_co fX,hlt fX,?_⟩;refine⟨_,zad _,r_co fX,hlt fX,?_⟩;refine cmo (zfW (n:=x.ev.length) (a:=a) hv.co hco (by omega) (by omega)) ?_;rintro e U ⟨rfl,hbU⟩;refine⟨hbU,?_⟩;have fX:=zaa hbU fX;replace hbX:=zst hbX hbU;refine cmo (zh3 (n:=x.ev.length) (a:=a) hv.co hco (by omega) (by omega)) ?_;rintro e U ⟨rfl,hbU⟩;refine⟨hbU,?_⟩;have fX:=zaa hbU fX;replace hbX:=zst hbX hbU;exact⟨(),⟨.cons rfl (.cons rfl (.cons rfl (.cons rfl (.cons rfl (.cons rfl (.cons rfl (.cons rfl (.cons rfl (.nil))))))))),rfl⟩,fX,hbX⟩
   clear fX hbX;rintro _ X ⟨fX,hbX⟩;have badA:pl1 x l a=false->(List.range 6).all (fun l=>plL x locs l)=false:=fun h=>zdg hln (by rw [hs];exact zdg han (by rw [hpA,h];rfl));have badB:∀ b,b<x.ev.length->plB x l a b=false->(List.range 6).all (fun l=>plL x locs l)=false:=fun b hb h=>zdg hln (by rw [hs];exact zdg han (by rw [hpA,zdg hb h,Bool.and_false]));refine⟨Unit,fun _=>⟨[(1,i64 (locs:Nat)),(2,At0 L),(5,.slice (some ⟨bq,oq,none⟩) x.ev.length c),(6,i64 x.ev.length),(7,i64 (l:Nat)),(8,i64 (many:Nat)),(10,i64 (a:Nat))],[]⟩,fun _ Z=>pl1 x l a=true/\ExH Z L x (some ⟨bq,oq,none⟩) c/\Bw w Z,?_,?_⟩
   ·refine DrawE.ord [] [0,1,2,3,4,5,6,7,8,9,10,11,12,13,14,15,16,17,18,19,20,21,22,23,24,25,26,27,28,29,30,31,32,33,34,35,36,37,38] (by kernel_rfl) ?_;have fX:=hdr fX;replace hbX:=hbX.trans ((Below.refl _ _).drew.mono hbX.size);refine⟨_,zak (by omega),?_⟩;refine⟨_,zak (by omega),?_⟩;refine biE (fun h1=>?_) fun h1=>?_
    ·have h1:=(znd (a:=zb1 x.co a) (b:=zcd x.co a) (m:=many)).symm.trans (notB h1);refine brT ?_;refine brT ?_;refine brT ?_;exact⟨rb (badA (by unfold pl1;rw [hmq];simp [h1])).symm,hbX⟩
    ·have h1:=(znd (a:=zb1 x.co a) (b:=zcd x.co a) (m:=many)).symm.trans (notF h1);refine⟨_,zad _,r_co fX,hlt fX,?_⟩;refine cmo (zbB hv.co (by omega) (by omega)) ?_;rintro e U ⟨rfl,hbU⟩;refine⟨hbU,?_⟩;have fX:=zaa hbU fX;replace hbX:=zst hbX hbU;refine biE (fun h2=>?_) fun h2=>?_
     ·refine brT ?_;refine brT ?_;exact⟨rb (badA (by unfold pl1;rw [hmq];simp [h1,h2])).symm,hbX⟩
     ·refine biE (fun h3=>?_) fun h3=>?_
      ·have h3:=(zer (a:=a) (b:=l)).symm.trans h3;refine biE (fun h4=>?_) fun h4=>?_
       ·have h4:=notB ((zne (a:=zb1 x.co a)).symm.trans h4);refine brT ?_;exact⟨rb (badA (by unfold pl1;rw [hmq];simp [h1,h2,h3,h4])).symm,hbX⟩
       ·have h4:=notF ((zne (a:=zb1 x.co a)).symm.trans h4);refine biE (fun h5=>?_) fun h5=>?_
        ·have h5:=(zer (a:=zcd x.co a) (b:=0)).symm.trans h5;refine⟨l,rfl,by omega,?_⟩;refine⟨u8 (x.mem l),zjH (zab fX) (by omega),?_⟩;refine⟨a,rfl,by omega,?_⟩;refine⟨_,zoB (zae hbX (hat a (by omega))),?_⟩;refine biE (fun h6=>?_) fun h6=>?_
         ·have h6:=zbc.symm.trans (notB h6);exact⟨rb (badA (by unfold pl1;rw [hmq];simp [h1,h2,h3,h4,h5,h6])).symm,hbX⟩
         ·have h6:=zbc.symm.trans (notF h6);have hp1:pl1 x l a=true:=(by unfold pl1;rw [hmq];simp [h1,h2,h3,h4,h5,h6]);exact⟨(),⟨.cons rfl (.cons rfl (.cons rfl (.cons rfl (.cons rfl (.cons rfl (.cons rfl (.nil))))))),rfl⟩,hp1,fX,hbX⟩
        ·have h5:=(zer (a:=zcd x.co a) (b:=0)).symm.trans h5;refine brF ?_;have hp1:pl1 x l a=true:=(by unfold pl1;rw [hmq];simp [h1,h2,h3,h4,h5]);exact⟨(),⟨.cons rfl (.cons rfl (.cons rfl (.cons rfl (.cons rfl (.cons rfl (.cons rfl (.nil))))))),rfl⟩,hp1,fX,hbX⟩
      ·have h3:=(zer (a:=a) (b:=l)).symm.trans h3;refine brF ?_;refine biE (fun h7=>?_) fun h7=>?_
       ·have h7:=(zer (a:=zcd x.co a) (b:=0)).symm.trans h7;refine⟨l,rfl,by omega,?_⟩;refine⟨u8 (x.mem l),zjH (zab fX) (by omega),?_⟩;refine⟨a,rfl,by omega,?_⟩;refine⟨_,zoB (zae hbX (hat a (by omega))),?_⟩;refine biE (fun h8=>?_) fun h8=>?_
        ·have h8:=zbc.symm.trans (notB h8);exact⟨rb (badA (by unfold pl1;rw [hmq];simp [h1,h2,h3,h7,h8])).symm,hbX⟩
        ·have h8:=zbc.symm.trans (notF h8);have hp1:pl1 x l a=true:=(by unfold pl1;rw [hmq];simp [h1,h2,h3,h7,h8]);exact⟨(),⟨.cons rfl (.cons rfl (.cons rfl (.cons rfl (.cons rfl (.cons rfl (.cons rfl (.nil))))))),rfl⟩,hp1,fX,hbX⟩
       ·have h7:=(zer (a:=zcd x.co a) (b:=0)).symm.trans h7;refine brF ?_;have hp1:pl1 x l a=true:=(by unfold pl1;rw [hmq];simp [h1,h2,h3,h7]);exact⟨(),⟨.cons rfl (.cons rfl (.cons rfl (.cons rfl (.cons rfl (.cons rfl (.cons rfl (.nil))))))),rfl⟩,hp1,fX,hbX⟩
   clear fX hbX;rintro _ X ⟨hp1,fX,hbX⟩;refine⟨Nat,fun b=>⟨[(1,i64 (locs:Nat)),(2,At0 L),(5,.slice (some ⟨bq,oq,none⟩) x.ev.length c),(6,i64 x.ev.length),(7,i64 (l:Nat)),(8,i64 (many:Nat)),(10,i64 (a:Nat)),(13,i64 (b:Nat))],[]⟩,fun b Z=>b<=x.ev.length/\(∀ i,i<b->plB x l a i=true)/\ExH Z L x (some ⟨bq,oq,none⟩) c/\Bw w Z,fun b=>x.ev.length-b,0,⟨.cons rfl (.cons rfl (.cons rfl (.cons rfl (.cons rfl (.cons rfl (.cons rfl (.cons rfl (.nil)))))))),rfl⟩,⟨Nat.zero_le _,fun i hi=>by omega,fX,hbX⟩,?_⟩;clear fX hbX;rintro b X ⟨hb,hallB,fX,hbX⟩;dsimp only;refine biE (fun hc=>?_) fun hc=>?_
   ·have hc:(b:Int)<(x.ev.length:Int):=dT hc;have hbn:b<x.ev.length:=(by omega);refine⟨Unit,fun _=>⟨[(1,i64 (locs:Nat)),(2,At0 L),(5,.slice (some ⟨bq,oq,none⟩) x.ev.length c),(6,i64 x.ev.length),(7,i64 (l:Nat)),(8,i64 (many:Nat)),(10,i64 (a:Nat)),(13,i64 (b:Nat))],[]⟩,fun _ Z=>pl2 x l a b=true/\ExH Z L x (some ⟨bq,oq,none⟩) c/\Bw w Z,?_,?_⟩
    ·have dX:Bw X X.drew:=(Below.refl _ _).drew;refine DrawE.ord [] [0,1,2,3,4,5,6,7,8,9,10,11,12,13,15,16,17,18,14,19,20,21] (by kernel_rfl) ?_;have fX:=zaa dX fX;replace hbX:=zst hbX dX;clear dX;refine biE (fun h1=>?_) fun h1=>?_
     ·have h1:=(zer (a:=b) (b:=a)).symm.trans (notB h1);refine cmo (zhz (x:=x) (a:=b) (loc:=l) (hv.below hbX).ev (by omega)) ?_;rintro e _ ⟨rfl,rfl⟩;refine⟨Below.refl _ _,?_⟩;refine biE (fun h2=>?_) fun h2=>?_
      ·refine⟨_,zad _,r_co fX,hlt fX,?_⟩;refine⟨_,zad _,r_co fX,hlt fX,?_⟩;refine cmo (zbB hv.co (by omega) (by omega)) ?_;rintro e U ⟨rfl,hbU⟩;refine⟨hbU,?_⟩;have fX:=zaa hbU fX;replace hbX:=zst hbX hbU;refine cmo (zbB hv.co (by omega) (by omega)) ?_;rintro e U ⟨rfl,hbU⟩;refine⟨hbU,?_⟩;have fX:=zaa hbU fX;replace hbX:=zst hbX hbU;refine⟨_,fun w=>ziU _ _ (hasQ (x.co) a b) (hasQ (x.co) b a) w,?_⟩;refine biE (fun h3=>?_) fun h3=>?_
       ·exact⟨rb (badB b hbn (by unfold plB;rw [show pl2 x l a b=false by unfold pl2;simp [zaH,h1,h2,h3]];rfl)).symm,hbX⟩
       ·have hp2:pl2 x l a b=true:=(by unfold pl2;simp [zaH,h1,h2,h3]);exact⟨(),⟨.cons rfl (.cons rfl (.cons rfl (.cons rfl (.cons rfl (.cons rfl (.cons rfl (.cons rfl (.nil)))))))),rfl⟩,hp2,fX,hbX⟩
      ·refine brF ?_;have hp2:pl2 x l a b=true:=(by unfold pl2;simp [zaH,h1,h2]);exact⟨(),⟨.cons rfl (.cons rfl (.cons rfl (.cons rfl (.cons rfl (.cons rfl (.cons rfl (.cons rfl (.nil)))))))),rfl⟩,hp2,fX,hbX⟩
     ·have h1:=(zer (a:=b) (b:=a)).symm.trans (notF h1);refine brF ?_;refine brF ?_;have hp2:pl2 x l a b=true:=(by unfold pl2;simp [zaH,h1]);exact⟨(),⟨.cons rfl (.cons rfl (.cons rfl (.cons rfl (.cons rfl (.cons rfl (.cons rfl (.cons rfl (.nil)))))))),rfl⟩,hp2,fX,hbX⟩
    clear fX hbX;rintro _ X ⟨hp2,fX,hbX⟩;refine⟨Nat,fun d=>⟨[(1,i64 (locs:Nat)),(2,At0 L),(5,.slice (some ⟨bq,oq,none⟩) x.ev.length c),(6,i64 x.ev.length),(7,i64 (l:Nat)),(8,i64 (many:Nat)),(10,i64 (a:Nat)),(13,i64 (b:Nat)),(14,i64 (d:Nat))],[]⟩,fun d Z=>d<=x.ev.length/\(∀ i,i<d->pl3 x a b i=true)/\ExH Z L x (some ⟨bq,oq,none⟩) c/\Bw w Z,fun d=>x.ev.length-d,0,⟨.cons rfl (.cons rfl (.cons rfl (.cons rfl (.cons rfl (.cons rfl (.cons rfl (.cons rfl (.cons rfl (.nil))))))))),rfl⟩,⟨Nat.zero_le _,fun i hi=>by omega,fX,hbX⟩,?_⟩;clear fX hbX;rintro d X ⟨hd,hallC,fX,hbX⟩;dsimp only;refine biE (fun hc=>?_) fun hc=>?_
    ·have hc:(d:Int)<(x.ev.length:Int):=dT hc;have hdn:d<x.ev.length:=(by omega);refine⟨_,zad _,r_co fX,hlt fX,?_⟩;refine cmo (zbB hv.co (by omega) (by omega)) ?_;rintro e U ⟨rfl,hbU⟩;have fX:=zaa hbU fX;replace hbX:=zst hbX hbU;refine biE (fun h1=>?_) fun h1=>?_
     ·refine⟨_,zad _,r_co fX,hlt fX,?_⟩;refine cmo (zbB hv.co (by omega) (by omega)) ?_;rintro e U ⟨rfl,hbU⟩;have fX:=zaa hbU fX;replace hbX:=zst hbX hbU;refine biE (fun h2=>?_) fun h2=>?_
      ·refine⟨_,zad _,r_co fX,hlt fX,?_⟩;refine cmo (zbB hv.co (by omega) (by omega)) ?_;rintro e U ⟨rfl,hbU⟩;have fX:=zaa hbU fX;replace hbX:=zst hbX hbU;refine biE (fun h3=>?_) fun h3=>?_
       ·have h3:=notB h3;exact⟨rb (badB b hbn (by unfold plB;rw [zdg hdn (show pl3 x a b d=false by unfold pl3;simp [h1,h2,h3]),Bool.and_false])).symm,hbX⟩
       ·have h3:=notF h3;refine nxI (by omega) ?_;exact⟨d+1,⟨.cons rfl (.cons rfl (.cons rfl (.cons rfl (.cons rfl (.cons rfl (.cons rfl (.cons rfl (.cons rfl (.nil))))))))),rfl⟩,⟨hdn,zbz hallC (show pl3 x a b d=true by unfold pl3;simp [h1,h2,h3]),fX,hbX⟩,zdc (by omega)⟩
      ·refine brF ?_;refine nxI (by omega) ?_;exact⟨d+1,⟨.cons rfl (.cons rfl (.cons rfl (.cons rfl (.cons rfl (.cons rfl (.cons rfl (.cons rfl (.cons rfl (.nil))))))))),rfl⟩,⟨hdn,zbz hallC (show pl3 x a b d=true by unfold pl3;simp [h1,h2]),fX,hbX⟩,zdc (by omega)⟩
     ·refine brF ?_;refine brF ?_;refine nxI (by omega) ?_;exact⟨d+1,⟨.cons rfl (.cons rfl (.cons rfl (.cons rfl (.cons rfl (.cons rfl (.cons rfl (.cons rfl (.cons rfl (.nil))))))))),rfl⟩,⟨hdn,zbz hallC (show pl3 x a b d=true by unfold pl3;simp [h1]),fX,hbX⟩,zdc (by omega)⟩
    ·have hc:¬ (d:Int)<(x.ev.length:Int):=dF hc;have hde:d=x.ev.length:=(by omega);clear hc;refine nxI (by omega) ?_;exact⟨b+1,⟨.cons rfl (.cons rfl (.cons rfl (.cons rfl (.cons rfl (.cons rfl (.cons rfl (.cons rfl (.nil)))))))),rfl⟩,⟨hbn,zbz hallB (by unfold plB;rw [hp2,zdI fun i hi=>hallC i (by omega)];rfl),fX,hbX⟩,zdc (by omega)⟩
   ·have hc:¬ (b:Int)<(x.ev.length:Int):=dF hc;have hbe:b=x.ev.length:=(by omega);clear hc;refine nxI (by omega) ?_;exact⟨a+1,⟨.cons rfl (.cons rfl (.cons rfl (.cons rfl (.cons rfl (.cons rfl (.cons rfl (.nil))))))),rfl⟩,⟨han,zbz hallA (by rw [hpA,hp1,zdI fun i hi=>hallB i (by omega)];rfl),fX,hbX⟩,zdc (by omega)⟩
  ·have hc:¬ (a:Int)<(x.ev.length:Int):=dF hc;have hae:a=x.ev.length:=by omega
   clear hc;refine nxI (by omega) ?_;exact⟨l+1,⟨.cons rfl (.cons rfl (.cons rfl (.cons rfl (.cons rfl (.nil))))),rfl⟩,⟨hln,zbz hall (by rw [hs,zdI fun i hi=>hallA i (by omega)]),fX,hbX⟩,zdc (by omega)⟩
 ·have hc:¬ (l:Int)<6:=dF hc;have hle:l=6:=by omega
  clear hc;subst hle;exact⟨rb (zdI hall).symm,hbX⟩
end
def pr1 (x:ExD) (a b:Nat):Bool:=hasQ x.po a b == poQ x a b
def pr2 (x:ExD) (a b:Nat):Bool := !hasQ x.rf a b||(isW x a&&(isR x b&&(zek x a b&&decide ((evA x a).v=(evA x b).v))))
def pr3 (x:ExD) (a b:Nat):Bool := !hasQ x.co a b||(isW x a&&(isW x b&&zek x a b))
def pr4 (x:ExD) (a b:Nat):Bool:=(!hasQ x.dt a b||(poQ x a b&&(isR x a&&isW x b)))&&((!hasQ x.ct a b||(poQ x a b&&isR x a))&&(!hasQ x.rm a b||(poQ x a b&&(isR x a&&(isW x b&&zek x a b)))))
theorem zf9 (x:ExD) (a b:Nat):zga x a b=(pr1 x a b&&(pr2 x a b&&(pr3 x a b&&pr4 x a b))):=rfl
theorem zfw {a:Nat}:decide ((1:Int)<(a:Int)) = !decide (a<=1):=by
 rw [<- decide_not];exact decide_eq_decide.2 (by omega)
theorem zmE (x y:Operand) (a b:Bool) (w:World):(do eqGuard .neq 4 x y (.bool a) (.bool b);binOp .neq 4 (.bool a) (.bool b)).run Tryz.prog w = .ok (.bool (!decide (a=b))) w:=by
 have h:(Op.equal 4 (.bool a) (.bool b)).run Tryz.prog w = .ok (decide (a=b)) w:=zkx 9999 a b w;have h1:(eqGuard .neq 4 x y (.bool a) (.bool b)).run Tryz.prog w = .ok () w:=rfl;rw [Sem.run_bind,h1];simp only [Result.andThen_ok,binOp,Sem.run_bind,h,Sem.run_pure]
abbrev zk9 (x:ExD):List Value:=relC x.po++(relC x.rf++(relC x.co++(relC x.dt++(relC x.ct++relC x.rm))))
theorem zpA {X:World} {g:Nat} {x:ExD} (h:X.heap[g]?=some (.cells (zk9 x).toArray 27 (0,0))):SlR relE X (some ⟨g,0,none⟩) (zcU x) :=
 SlR.of_cells (hlt h) (by
  have:(zcU x).flatMap relE.enc=zk9 x:=by
   unfold zcU zk9;rw [List.flatMap_cons,List.flatMap_cons,List.flatMap_cons,List.flatMap_cons,List.flatMap_cons,List.flatMap_cons,List.flatMap_nil,List.append_nil];rfl
  rw [this];exact zab h)
section
variable {w:World} {c:Nat} {x:ExD} {q:Option Addr}
theorem zi3 (hv:ExV w x q):CB 9 #[.agg (exC x q c).toArray] w (.bool (zaL x)):=by
 rw [zmh ⟨hv.po,hv.rf,hv.co,hv.dt,hv.ct,hv.rm⟩];refine cofM 278 [.agg (exC x q c).toArray] (.c .p (.c .p (.c .p (.c .p (.c .p (.c .p (.c (.s .p (.b (.l (.s .p (.s (.b (.c .p (.b (.l (.s .p (.s (.b (.c .p (.c .p (.c .p (.c .p (.c .p .p)))))) .p)))))) .p))))) (.c .p .p)))))))) Tryz.func9 ?_;obtain⟨L,hL⟩:=nm (w.heap.size);have h16:=hv.n;refine⟨Unit,fun _=>⟨[(1,At0 L)],[]⟩,fun _ X=>ExH X L x q c/\Bw w X,⟨(),⟨.cons (by rw [hL];rfl) .nil,rfl⟩,by rw [hL];exact hnew w _,(zba w _)⟩,?_⟩;rintro _ X ⟨fX,hbX⟩;refine⟨Unit,fun _=>⟨[(1,At0 L),(3,.slice q x.ev.length c),(4,i64 x.ev.length)],[]⟩,fun _ Z=>ExH Z L x q c/\Bw w Z,?_,?_⟩
 ·have dX:Bw X X.drew:=(Below.refl _ _).drew;refine DrawE.ord [] [0,1,2,3,4,5,6] (by kernel_rfl) ?_;have fX:=zaa dX fX;refine⟨_,zax (zab fX),?_⟩;refine⟨_,zax (zab fX),?_⟩;exact⟨(),⟨.cons rfl (.cons rfl (.cons rfl (.nil))),rfl⟩,fX,(zst hbX dX)⟩
 clear fX hbX;rintro _ X ⟨fX,hbX⟩;refine⟨Unit,fun _=>⟨[(1,At0 L),(3,.slice q x.ev.length c),(4,i64 x.ev.length),(5,zgP x.ev)],[]⟩,fun _ Z=>ExH Z L x q c/\Bw w Z,?_,?_⟩
 ·refine cmo (zot (hv.below hbX).ev (by omega)) ?_;rintro e U ⟨rfl,hbU⟩;exact⟨(),⟨.cons rfl (.cons rfl (.cons rfl (.cons rfl (.nil)))),rfl⟩,zaa hbU fX,(zst hbX hbU)⟩
 clear fX hbX;rintro _ X ⟨fX,hbX⟩;refine⟨Nat,fun locs=>⟨[(1,At0 L),(3,.slice q x.ev.length c),(4,i64 x.ev.length),(5,i64 (locs:Nat))],[]⟩,fun locs Z=>zbS x.ev=some locs/\ExH Z L x q c/\Bw w Z,?_,?_⟩
 ·cases hh:zbS x.ev with
  | none =>
   have e1:zgP x.ev=i64 (-1):=by unfold zgP;rw [hh]
   rw [e1];refine brE (decide_eq_true (by decide)) ?_;exact⟨rb (by unfold zdM;rw [hh]),hbX⟩
  | some locs =>
   have e1:zgP x.ev=i64 (locs:Nat):=by unfold zgP;rw [hh]
   rw [e1];refine brN (decide_eq_false (by omega)) ?_;exact⟨locs,⟨.cons rfl (.cons rfl (.cons rfl (.cons rfl (.nil)))),rfl⟩,rfl,fX,hbX⟩
 clear fX hbX;rintro locs X ⟨hh,fX,hbX⟩;obtain⟨hl,h48,h1,h6,hev⟩:=(zec x.ev locs).1 hh;have hle:locs<=x.ev.length:=by rw [hl];exact zkp _
 have hright:zdM x=(za4 x&&(zei x.ev.length (zga x)&&((List.range x.ev.length).all (zeD x)&&zf5 x locs))):=by unfold zdM;rw [hh]
 obtain⟨bq,oq,hqe,hbq,hat⟩:=zdZ hv.ev (by omega);subst hqe;refine⟨Nat,fun g=>⟨[(1,At0 L),(3,.slice (some ⟨bq,oq,none⟩) x.ev.length c),(4,i64 x.ev.length),(5,i64 (locs:Nat)),(6,.slice (some ⟨g,0,none⟩) 6 6)],[]⟩,fun g Z=>Z.heap[g]?=some (.cells (zk9 x).toArray 27 (0,0))/\ExH Z L x (some ⟨bq,oq,none⟩) c/\Bw w Z,?_,?_⟩
 ·have hba:∀ (A:World) (o:Obj),Bw A (A.alloc o):=fun A o=>(zba _ _);refine⟨relC x.po,zad _,zaA fX (i:=0) (by decide) rfl,hlt fX,?_⟩;refine⟨relC x.rf,zad _,zaA fX (i:=1) (by decide) rfl,hlt fX,?_⟩;refine⟨relC x.co,zad _,zaA fX (i:=2) (by decide) rfl,hlt fX,?_⟩;refine⟨relC x.dt,zad _,zaA fX (i:=3) (by decide) rfl,hlt fX,?_⟩;refine⟨relC x.ct,zad _,zaA fX (i:=4) (by decide) rfl,hlt fX,?_⟩;refine⟨relC x.rm,zad _,zaA fX (i:=5) (by decide) rfl,hlt fX,?_⟩;refine⟨⟨by decide,by decide,rfl⟩,zk9 x,by kernel_rfl,?_⟩;exact⟨X.heap.size,⟨.cons rfl (.cons rfl (.cons rfl (.cons rfl (.cons rfl (.nil))))),rfl⟩,hnew X _,hold _ fX,hbX.alloc hbX.size _⟩
 clear fX hbX;rintro g X ⟨fg,fX,hbX⟩;have hrels:za4 x=(zcU x).all (okX x):=rfl;refine⟨Unit,fun _=>⟨[(1,At0 L),(3,.slice (some ⟨bq,oq,none⟩) x.ev.length c),(4,i64 x.ev.length),(5,i64 (locs:Nat))],[]⟩,fun _ Z=>za4 x=true/\ExH Z L x (some ⟨bq,oq,none⟩) c/\Bw w Z,?_,?_⟩
 ·refine⟨Nat,fun k=>⟨[(1,At0 L),(3,.slice (some ⟨bq,oq,none⟩) x.ev.length c),(4,i64 x.ev.length),(5,i64 (locs:Nat)),(6,.slice (some ⟨g,0,none⟩) 6 6),(7,i64 (k:Nat))],[]⟩,fun k Z=>k<=6/\((zcU x).take k).all (okX x)=true/\Z.heap[g]?=some (.cells (zk9 x).toArray 27 (0,0))/\ExH Z L x (some ⟨bq,oq,none⟩) c/\Bw w Z,fun k=>6-k,0,⟨.cons rfl (.cons rfl (.cons rfl (.cons rfl (.cons rfl (.cons rfl (.nil)))))),rfl⟩,⟨Nat.zero_le _,rfl,fg,fX,hbX⟩,?_⟩;clear fg fX hbX;rintro k X ⟨hk,hall,fg,fX,hbX⟩;dsimp only;refine biE (fun hc=>?_) fun hc=>?_
  ·have hc:(k:Int)<6:=dT hc;have hk6:k<(zcU x).length:=(by omega:k<6);obtain⟨r,hr⟩:∃ r,(zcU x)[k]=r:=⟨_,rfl⟩;have hrm:r∈zcU x:=by rw [<- hr];exact gM hk6
   have hrw:WrdR r.to:=by
    have:=hv.rel (i:=k) (by omega);rw [gDe,gE hk6,Option.getD_some,hr] at this;exact this
   have htk:(zcU x).take (k+1)=(zcU x).take k++[r]:=by rw [tsg hk6,hr]
   obtain⟨bp,op,hqp,hbp,hatr⟩:=(zpA fg).at hk6;obtain⟨rfl,rfl⟩:g=bp/\op=0:=by simpa [eq_comm] using hqp
   have hck:=hatr k hk6;rw [hr] at hck;have bad:∀ {Z:World},Bw w Z->okX x r=false->(Ending.returned (.bool false)=Ending.returned (.bool (zdM x))/\Bw w Z):=fun {Z} hb h=>⟨rb (by
    have:za4 x=false:=by
     rw [hrels,List.all_eq_false];exact⟨r,hrm,by rw [h];decide⟩
    rw [hright,this];rfl),hb⟩
   refine⟨k,rfl,(by omega:k<6),?_⟩;refine⟨relC r,zad _,hck,hbp,?_⟩;refine cmo (zgI hrw) ?_;rintro e U ⟨rfl,hbU⟩;have bU:=zst hbX hbU;refine biE (fun h2=>?_) fun h2=>?_
   ·have h2:okR r=false:=notB h2;refine brT ?_;exact bad bU (by unfold okX;rw [h2,Bool.and_false])
   have h2:okR r=true:=notF h2;refine⟨k,rfl,(by omega:k<6),?_⟩;refine⟨i64 r.n,by have:=zac (zae hbU hck) (i:=0) (v:=i64 r.n) rfl;exact this,?_⟩;refine biE (fun h3=>?_) fun h3=>?_
   ·have h3:¬ r.n=(x.ev.length:Int):=dF (notB h3);exact bad bU (by unfold okX;rw [decide_eq_false h3];rfl)
   have h3:r.n=(x.ev.length:Int):=dT (notF h3);refine nxI (by omega) ?_;refine⟨k+1,⟨.cons rfl (.cons rfl (.cons rfl (.cons rfl (.cons rfl (.cons rfl (.nil)))))),rfl⟩,⟨by omega,?_,zaa hbU fg,zaa hbU fX,bU⟩,zdc (by omega)⟩;rw [htk,List.all_append,hall];show (true&&(okX x r&&true))=true;unfold okX;rw [decide_eq_true h3,h2];rfl
  ·have hc:¬ (k:Int)<6:=dF hc;obtain rfl:k=6:=by omega
   exact⟨(),⟨.cons rfl (.cons rfl (.cons rfl (.cons rfl (.nil)))),rfl⟩,hall,fX,hbX⟩
 clear fg fX hbX;rintro _ X ⟨hrr,fX,hbX⟩;rw [hrr,Bool.true_and] at hright;have hall:∀ r∈zcU x,r.n=x.ev.length/\okR r=true:=fun r hr=>by
  rw [hrels,List.all_eq_true] at hrr;have:=hrr r hr;unfold okX at this;rw [bAT,dE] at this;exact this
 have nrf:=(hall x.rf (by simp)).1;have nco:=(hall x.co (by simp)).1;have nrm:=(hall x.rm (by simp)).1;clear hall hrr hrels;refine⟨Unit,fun _=>⟨[(1,At0 L),(3,.slice (some ⟨bq,oq,none⟩) x.ev.length c),(4,i64 x.ev.length),(5,i64 (locs:Nat))],[]⟩,fun _ Z=>zei x.ev.length (zga x)=true/\ExH Z L x (some ⟨bq,oq,none⟩) c/\Bw w Z,?_,?_⟩
 ·refine⟨Nat,fun a=>⟨[(1,At0 L),(3,.slice (some ⟨bq,oq,none⟩) x.ev.length c),(4,i64 x.ev.length),(5,i64 (locs:Nat)),(8,i64 (a:Nat))],[]⟩,fun a Z=>a<=x.ev.length/\(∀ i,i<a->((List.range x.ev.length).all fun j=>zga x i j)=true)/\ExH Z L x (some ⟨bq,oq,none⟩) c/\Bw w Z,fun a=>x.ev.length-a,0,⟨.cons rfl (.cons rfl (.cons rfl (.cons rfl (.cons rfl (.nil))))),rfl⟩,⟨Nat.zero_le _,fun i hi=>by omega,fX,hbX⟩,?_⟩;clear fX hbX;rintro a X ⟨ha,hallA,fX,hbX⟩;dsimp only;refine biE (fun hc=>?_) fun hc=>?_
  ·have hc:(a:Int)<(x.ev.length:Int):=dT hc;have han:a<x.ev.length:=by omega
   refine⟨Unit,fun _=>⟨[(1,At0 L),(3,.slice (some ⟨bq,oq,none⟩) x.ev.length c),(4,i64 x.ev.length),(5,i64 (locs:Nat)),(8,i64 (a:Nat)),(9,i64 (0:Nat))],[]⟩,fun _ Z=>ExH Z L x (some ⟨bq,oq,none⟩) c/\Bw w Z,⟨(),⟨.cons rfl (.cons rfl (.cons rfl (.cons rfl (.cons rfl (.cons rfl (.nil)))))),rfl⟩,fX,hbX⟩,?_⟩;clear fX hbX;rintro _ X ⟨fX,hbX⟩;refine⟨Nat,fun d=>⟨[(1,At0 L),(3,.slice (some ⟨bq,oq,none⟩) x.ev.length c),(4,i64 x.ev.length),(5,i64 (locs:Nat)),(8,i64 (a:Nat)),(9,i64 (d:Nat))],[]⟩,fun d Z=>d<=x.ev.length/\(∀ i,i<d->zga x a i=true)/\ExH Z L x (some ⟨bq,oq,none⟩) c/\Bw w Z,fun d=>x.ev.length-d,0,⟨.cons rfl (.cons rfl (.cons rfl (.cons rfl (.cons rfl (.cons rfl (.nil)))))),rfl⟩,⟨Nat.zero_le _,fun i hi=>by omega,fX,hbX⟩,?_⟩;clear fX hbX;rintro d X ⟨hd,hallD,fX,hbX⟩;dsimp only;refine biE (fun hc=>?_) fun hc=>?_
   ·have hc:(d:Int)<(x.ev.length:Int):=dT hc;have hdn:d<x.ev.length:=(by omega);have badP:∀ {Z:World},Bw w Z->zga x a d=false->(Ending.returned (.bool false)=Ending.returned (.bool (zdM x))/\Bw w Z):=fun {Z} hb h=>⟨rb (by
     have:zei x.ev.length (zga x)=false:=zdg han (zdg hdn h);rw [hright,this];rfl),hb⟩
    have badpr1:∀ {Z:World},Bw w Z->pr1 x a d=false->(Ending.returned (.bool false)=Ending.returned (.bool (zdM x))/\Bw w Z):=fun {Z} hb h=>badP hb (by rw [zf9,h];rfl);refine⟨Unit,fun _=>⟨[(1,At0 L),(3,.slice (some ⟨bq,oq,none⟩) x.ev.length c),(4,i64 x.ev.length),(5,i64 (locs:Nat)),(8,i64 (a:Nat)),(9,i64 (d:Nat)),(10,.bool (poQ x a d))],[]⟩,fun _ Z=>ExH Z L x (some ⟨bq,oq,none⟩) c/\Bw w Z,?_,?_⟩
    ·have dX:Bw X X.drew:=(Below.refl _ _).drew;refine DrawE.ord [] [0,1,2,3,4,5,6,7,8,9,10,11,12,13,14,15,16,17,18,19,20,21,22,23,24] (by kernel_rfl) ?_;have fX:=zaa dX fX;replace hbX:=zst hbX dX;clear dX;refine⟨a,rfl,by omega,?_⟩;refine⟨_,ziT (zae hbX (hat a (by omega))),?_⟩;refine biE (fun h1=>?_) fun h1=>?_
     ·refine⟨a,rfl,by omega,?_⟩;refine⟨_,ziT (zae hbX (hat a (by omega))),?_⟩;refine⟨d,rfl,by omega,?_⟩;refine⟨_,ziT (zae hbX (hat d (by omega))),?_⟩;refine biE (fun h2=>?_) fun h2=>?_
      ·have e5:decide ((a:Int)<(d:Int))=poQ x a d:=(by unfold poQ;simp [h1,h2]);exact⟨(),⟨.cons rfl (.cons rfl (.cons rfl (.cons rfl (.cons rfl (.cons rfl (.cons (by rw [<- e5];rfl) .nil)))))),rfl⟩,fX,hbX⟩
      ·have e5:false=poQ x a d:=(by unfold poQ;simp [h1,h2]);exact⟨(),⟨.cons rfl (.cons rfl (.cons rfl (.cons rfl (.cons rfl (.cons rfl (.cons (by rw [<- e5];rfl) .nil)))))),rfl⟩,fX,hbX⟩
     ·refine brF ?_;have e5:false=poQ x a d:=(by unfold poQ;simp [h1]);exact⟨(),⟨.cons rfl (.cons rfl (.cons rfl (.cons rfl (.cons rfl (.cons rfl (.cons (by rw [<- e5];rfl) .nil)))))),rfl⟩,fX,hbX⟩
    clear fX hbX;rintro _ X ⟨fX,hbX⟩;refine⟨Unit,fun _=>⟨[(1,At0 L),(3,.slice (some ⟨bq,oq,none⟩) x.ev.length c),(4,i64 x.ev.length),(5,i64 (locs:Nat)),(8,i64 (a:Nat)),(9,i64 (d:Nat)),(10,.bool (poQ x a d)),(11,.bool (zek x a d))],[]⟩,fun _ Z=>ExH Z L x (some ⟨bq,oq,none⟩) c/\Bw w Z,?_,?_⟩
    ·have dX:Bw X X.drew:=(Below.refl _ _).drew;refine DrawE.ord [] [0,1,2,3,4,5,6,7,8,9,10,11] (by kernel_rfl) ?_;have fX:=zaa dX fX;replace hbX:=zst hbX dX;clear dX;refine⟨a,rfl,by omega,?_⟩;refine⟨_,zoC (zae hbX (hat a (by omega))),?_⟩;refine⟨d,rfl,by omega,?_⟩;refine⟨_,zoC (zae hbX (hat d (by omega))),?_⟩;have e5:_=zek x a d:=(zbc (x:=(evA x a).l) (y:=(evA x d).l)).trans (by unfold zek;simp []);exact⟨(),⟨.cons rfl (.cons rfl (.cons rfl (.cons rfl (.cons rfl (.cons rfl (.cons rfl (.cons (by rw [<- e5];rfl) .nil))))))),rfl⟩,fX,hbX⟩
    clear fX hbX;rintro _ X ⟨fX,hbX⟩;refine⟨Unit,fun _=>⟨[(1,At0 L),(3,.slice (some ⟨bq,oq,none⟩) x.ev.length c),(4,i64 x.ev.length),(5,i64 (locs:Nat)),(8,i64 (a:Nat)),(9,i64 (d:Nat)),(10,.bool (poQ x a d)),(11,.bool (zek x a d))],[]⟩,fun _ Z=>pr1 x a d=true/\ExH Z L x (some ⟨bq,oq,none⟩) c/\Bw w Z,?_,?_⟩
    ·refine⟨_,zad _,r_po fX,hlt fX,?_⟩;refine cmo (zbB hv.po (by omega) (by omega)) ?_;rintro e U ⟨rfl,hbU⟩;have fX:=zaa hbU fX;replace hbX:=zst hbX hbU;refine⟨_,fun w=>zmE _ _ (hasQ (x.po) a d) (poQ x a d) w,?_⟩;refine biE (fun h1=>?_) fun h1=>?_
     ·have h1:=notB h1;exact badpr1 hbX (by unfold pr1;simp [zaH,isW,isR,h1])
     ·have h1:=notF h1;exact⟨(),⟨.cons rfl (.cons rfl (.cons rfl (.cons rfl (.cons rfl (.cons rfl (.cons rfl (.cons rfl (.nil)))))))),rfl⟩,by unfold pr1;simp [zaH,isW,isR,h1],fX,hbX⟩
    clear fX hbX;rintro _ X ⟨p1,fX,hbX⟩;have badpr2:∀ {Z:World},Bw w Z->pr2 x a d=false->(Ending.returned (.bool false)=Ending.returned (.bool (zdM x))/\Bw w Z):=fun {Z} hb h=>badP hb (by rw [zf9,h,p1];rfl);refine⟨Unit,fun _=>⟨[(1,At0 L),(3,.slice (some ⟨bq,oq,none⟩) x.ev.length c),(4,i64 x.ev.length),(5,i64 (locs:Nat)),(8,i64 (a:Nat)),(9,i64 (d:Nat)),(10,.bool (poQ x a d)),(11,.bool (zek x a d))],[]⟩,fun _ Z=>pr2 x a d=true/\ExH Z L x (some ⟨bq,oq,none⟩) c/\Bw w Z,?_,?_⟩
    ·have dX:Bw X X.drew:=(Below.refl _ _).drew;refine DrawE.ord [] [0,1,2,3,4,5,6,7,8,9,10,11,12,13,14,15,16,17,18,19,20,21,22,23,24,25,26,27,28,29,30,31,32,33,34,35,36,37] (by kernel_rfl) ?_;have fX:=zaa dX fX;replace hbX:=zst hbX dX;clear dX;refine⟨_,zad _,r_rf fX,hlt fX,?_⟩;refine cmo (zbB hv.rf (by omega) (by omega)) ?_;rintro e U ⟨rfl,hbU⟩;refine⟨hbU,?_⟩;have fX:=zaa hbU fX;replace hbX:=zst hbX hbU;refine biE (fun h1=>?_) fun h1=>?_
     ·refine⟨a,rfl,by omega,?_⟩;refine⟨_,zcY (zae hbX (hat a (by omega))),?_⟩;refine biE (fun h2=>?_) fun h2=>?_
      ·have h2:=zaO.symm.trans h2;refine⟨d,rfl,by omega,?_⟩;refine⟨_,zcY (zae hbX (hat d (by omega))),?_⟩;refine biE (fun h3=>?_) fun h3=>?_
       ·have h3:=zbq.symm.trans h3;refine biE (fun h4=>?_) fun h4=>?_
        ·refine⟨a,rfl,by omega,?_⟩;refine⟨_,zoB (zae hbX (hat a (by omega))),?_⟩;refine⟨d,rfl,by omega,?_⟩;refine⟨_,zoB (zae hbX (hat d (by omega))),?_⟩;refine biE (fun h5=>?_) fun h5=>?_
         ·have h5:=zbc.symm.trans (notB h5);exact badpr2 hbX (by unfold pr2;simp [zaH,isW,isR,h1,h2,h3,h4,h5])
         ·have h5:=zbc.symm.trans (notF h5);exact⟨(),⟨.cons rfl (.cons rfl (.cons rfl (.cons rfl (.cons rfl (.cons rfl (.cons rfl (.cons rfl (.nil)))))))),rfl⟩,by unfold pr2;simp [zaH,isW,isR,h1,h2,h3,h4,h5],fX,hbX⟩
        ·refine brT ?_;exact badpr2 hbX (by unfold pr2;simp [zaH,isW,isR,h1,h2,h3,h4])
       ·have h3:=zbq.symm.trans h3;refine brF ?_;refine brT ?_;exact badpr2 hbX (by unfold pr2;simp [zaH,isW,isR,h1,h2,h3])
      ·have h2:=zaO.symm.trans h2;refine brF ?_;refine brF ?_;refine brT ?_;exact badpr2 hbX (by unfold pr2;simp [zaH,isW,isR,h1,h2])
     ·refine brF ?_;exact⟨(),⟨.cons rfl (.cons rfl (.cons rfl (.cons rfl (.cons rfl (.cons rfl (.cons rfl (.cons rfl (.nil)))))))),rfl⟩,by unfold pr2;simp [zaH,isW,isR,h1],fX,hbX⟩
    clear fX hbX;rintro _ X ⟨p2,fX,hbX⟩;have badpr3:∀ {Z:World},Bw w Z->pr3 x a d=false->(Ending.returned (.bool false)=Ending.returned (.bool (zdM x))/\Bw w Z):=fun {Z} hb h=>badP hb (by rw [zf9,h,p1,p2];rfl);refine⟨Unit,fun _=>⟨[(1,At0 L),(3,.slice (some ⟨bq,oq,none⟩) x.ev.length c),(4,i64 x.ev.length),(5,i64 (locs:Nat)),(8,i64 (a:Nat)),(9,i64 (d:Nat)),(10,.bool (poQ x a d)),(11,.bool (zek x a d))],[]⟩,fun _ Z=>pr3 x a d=true/\ExH Z L x (some ⟨bq,oq,none⟩) c/\Bw w Z,?_,?_⟩
    ·refine⟨_,zad _,r_co fX,hlt fX,?_⟩;refine cmo (zbB hv.co (by omega) (by omega)) ?_;rintro e U ⟨rfl,hbU⟩;have fX:=zaa hbU fX;replace hbX:=zst hbX hbU;refine biE (fun h1=>?_) fun h1=>?_
     ·refine⟨a,rfl,by omega,?_⟩;refine⟨_,zcY (zae hbX (hat a (by omega))),?_⟩;refine biE (fun h2=>?_) fun h2=>?_
      ·have h2:=zaO.symm.trans h2;refine⟨d,rfl,by omega,?_⟩;refine⟨_,zcY (zae hbX (hat d (by omega))),?_⟩;refine biE (fun h3=>?_) fun h3=>?_
       ·have h3:=zaO.symm.trans h3;refine biE (fun h4=>?_) fun h4=>?_
        ·have h4:=notB h4;exact badpr3 hbX (by unfold pr3;simp [zaH,isW,isR,h1,h2,h3,h4])
        ·have h4:=notF h4;exact⟨(),⟨.cons rfl (.cons rfl (.cons rfl (.cons rfl (.cons rfl (.cons rfl (.cons rfl (.cons rfl (.nil)))))))),rfl⟩,by unfold pr3;simp [zaH,isW,isR,h1,h2,h3,h4],fX,hbX⟩
       ·have h3:=zaO.symm.trans h3;refine brT ?_;exact badpr3 hbX (by unfold pr3;simp [zaH,isW,isR,h1,h2,h3])
      ·have h2:=zaO.symm.trans h2;refine brF ?_;refine brT ?_;exact badpr3 hbX (by unfold pr3;simp [zaH,isW,isR,h1,h2])
     ·refine brF ?_;exact⟨(),⟨.cons rfl (.cons rfl (.cons rfl (.cons rfl (.cons rfl (.cons rfl (.cons rfl (.cons rfl (.nil)))))))),rfl⟩,by unfold pr3;simp [zaH,isW,isR,h1],fX,hbX⟩
    clear fX hbX;rintro _ X ⟨p3,fX,hbX⟩;have badpr4:∀ {Z:World},Bw w Z->pr4 x a d=false->(Ending.returned (.bool false)=Ending.returned (.bool (zdM x))/\Bw w Z):=fun {Z} hb h=>badP hb (by rw [zf9,h,p1,p2,p3];rfl);have good:pr4 x a d=true->∀ i,i<d+1->zga x a i=true:=fun p4=>zbz hallD (by rw [zf9,p1,p2,p3,p4];rfl);refine⟨_,zad _,r_dt fX,hlt fX,?_⟩;refine cmo (zbB hv.dt (by omega) (by omega)) ?_;rintro e U ⟨rfl,hbU⟩;have fX:=zaa hbU fX;replace hbX:=zst hbX hbU;refine biE (fun h1=>?_) fun h1=>?_
    ·refine biE (fun h2=>?_) fun h2=>?_
     ·refine⟨a,rfl,by omega,?_⟩;refine⟨_,zcY (zae hbX (hat a (by omega))),?_⟩;refine biE (fun h3=>?_) fun h3=>?_
      ·have h3:=zbq.symm.trans h3;refine⟨d,rfl,by omega,?_⟩;refine⟨_,zcY (zae hbX (hat d (by omega))),?_⟩;refine biE (fun h4=>?_) fun h4=>?_
       ·have h4:=zaO.symm.trans (notB h4);refine brT ?_;refine brT ?_;exact badpr4 hbX (by unfold pr4;simp [zaH,isW,isR,h1,h2,h3,h4])
       ·have h4:=zaO.symm.trans (notF h4);refine⟨_,zad _,r_ct fX,hlt fX,?_⟩;refine cmo (zbB hv.ct (by omega) (by omega)) ?_;rintro e U ⟨rfl,hbU⟩;have fX:=zaa hbU fX;replace hbX:=zst hbX hbU;refine biE (fun h5=>?_) fun h5=>?_
        ·refine biE (fun h6=>?_) fun h6=>?_
         ·refine⟨a,rfl,by omega,?_⟩;refine⟨_,zcY (zae hbX (hat a (by omega))),?_⟩;refine biE (fun h7=>?_) fun h7=>?_
          ·have h7:=zbq.symm.trans (notB h7)
           cases h3.symm.trans h7
          ·have h7:=zbq.symm.trans (notF h7);refine⟨_,zad _,r_rm fX,hlt fX,?_⟩;refine cmo (zbB hv.rm (by omega) (by omega)) ?_;rintro e U ⟨rfl,hbU⟩;have fX:=zaa hbU fX;replace hbX:=zst hbX hbU;refine biE (fun h8=>?_) fun h8=>?_
           ·refine biE (fun h9=>?_) fun h9=>?_
            ·refine⟨a,rfl,by omega,?_⟩;refine⟨_,zcY (zae hbX (hat a (by omega))),?_⟩;refine biE (fun h10=>?_) fun h10=>?_
             ·have h10:=zbq.symm.trans h10;refine⟨d,rfl,by omega,?_⟩;refine⟨_,zcY (zae hbX (hat d (by omega))),?_⟩;refine biE (fun h11=>?_) fun h11=>?_
              ·have h11:=zaO.symm.trans h11;refine biE (fun h12=>?_) fun h12=>?_
               ·have h12:=notB h12;exact badpr4 hbX (by unfold pr4;simp [zaH,isW,isR,h1,h2,h3,h4,h5,h6,h7,h8,h9,h10,h11,h12])
               ·have h12:=notF h12;refine nxI (by omega) ?_;exact⟨d+1,⟨.cons rfl (.cons rfl (.cons rfl (.cons rfl (.cons rfl (.cons rfl (.nil)))))),rfl⟩,⟨hdn,good (by unfold pr4;simp [zaH,isW,isR,h1,h2,h3,h4,h5,h6,h7,h8,h9,h10,h11,h12]),fX,hbX⟩,zdc (by omega)⟩
              ·have h11:=zaO.symm.trans h11
               cases h4.symm.trans h11
             ·have h10:=zbq.symm.trans h10
              cases h3.symm.trans h10
            ·cases h2.symm.trans h9
           ·refine brF ?_;refine nxI (by omega) ?_;exact⟨d+1,⟨.cons rfl (.cons rfl (.cons rfl (.cons rfl (.cons rfl (.cons rfl (.nil)))))),rfl⟩,⟨hdn,good (by unfold pr4;simp [zaH,isW,isR,h1,h2,h3,h4,h5,h6,h7,h8]),fX,hbX⟩,zdc (by omega)⟩
         ·cases h2.symm.trans h6
        ·refine brF ?_;refine⟨_,zad _,r_rm fX,hlt fX,?_⟩;refine cmo (zbB hv.rm (by omega) (by omega)) ?_;rintro e U ⟨rfl,hbU⟩;have fX:=zaa hbU fX;replace hbX:=zst hbX hbU;refine biE (fun h13=>?_) fun h13=>?_
         ·refine biE (fun h14=>?_) fun h14=>?_
          ·refine⟨a,rfl,by omega,?_⟩;refine⟨_,zcY (zae hbX (hat a (by omega))),?_⟩;refine biE (fun h15=>?_) fun h15=>?_
           ·have h15:=zbq.symm.trans h15;refine⟨d,rfl,by omega,?_⟩;refine⟨_,zcY (zae hbX (hat d (by omega))),?_⟩;refine biE (fun h16=>?_) fun h16=>?_
            ·have h16:=zaO.symm.trans h16;refine biE (fun h17=>?_) fun h17=>?_
             ·have h17:=notB h17;exact badpr4 hbX (by unfold pr4;simp [zaH,isW,isR,h1,h2,h3,h4,h5,h13,h14,h15,h16,h17])
             ·have h17:=notF h17;refine nxI (by omega) ?_;exact⟨d+1,⟨.cons rfl (.cons rfl (.cons rfl (.cons rfl (.cons rfl (.cons rfl (.nil)))))),rfl⟩,⟨hdn,good (by unfold pr4;simp [zaH,isW,isR,h1,h2,h3,h4,h5,h13,h14,h15,h16,h17]),fX,hbX⟩,zdc (by omega)⟩
            ·have h16:=zaO.symm.trans h16
             cases h4.symm.trans h16
           ·have h15:=zbq.symm.trans h15
            cases h3.symm.trans h15
          ·cases h2.symm.trans h14
         ·refine brF ?_;refine nxI (by omega) ?_;exact⟨d+1,⟨.cons rfl (.cons rfl (.cons rfl (.cons rfl (.cons rfl (.cons rfl (.nil)))))),rfl⟩,⟨hdn,good (by unfold pr4;simp [zaH,isW,isR,h1,h2,h3,h4,h5,h13]),fX,hbX⟩,zdc (by omega)⟩
      ·have h3:=zbq.symm.trans h3;refine brT ?_;refine brT ?_;refine brT ?_;exact badpr4 hbX (by unfold pr4;simp [zaH,isW,isR,h1,h2,h3])
     ·refine brF ?_;refine brT ?_;refine brT ?_;refine brT ?_;exact badpr4 hbX (by unfold pr4;simp [zaH,isW,isR,h1,h2])
    ·refine brF ?_;refine⟨_,zad _,r_ct fX,hlt fX,?_⟩;refine cmo (zbB hv.ct (by omega) (by omega)) ?_;rintro e U ⟨rfl,hbU⟩;have fX:=zaa hbU fX;replace hbX:=zst hbX hbU;refine biE (fun h18=>?_) fun h18=>?_
     ·refine biE (fun h19=>?_) fun h19=>?_
      ·refine⟨a,rfl,by omega,?_⟩;refine⟨_,zcY (zae hbX (hat a (by omega))),?_⟩;refine biE (fun h20=>?_) fun h20=>?_
       ·have h20:=zbq.symm.trans (notB h20);refine brT ?_;exact badpr4 hbX (by unfold pr4;simp [zaH,isW,isR,h1,h18,h19,h20])
       ·have h20:=zbq.symm.trans (notF h20);refine⟨_,zad _,r_rm fX,hlt fX,?_⟩;refine cmo (zbB hv.rm (by omega) (by omega)) ?_;rintro e U ⟨rfl,hbU⟩;have fX:=zaa hbU fX;replace hbX:=zst hbX hbU;refine biE (fun h21=>?_) fun h21=>?_
        ·refine biE (fun h22=>?_) fun h22=>?_
         ·refine⟨a,rfl,by omega,?_⟩;refine⟨_,zcY (zae hbX (hat a (by omega))),?_⟩;refine biE (fun h23=>?_) fun h23=>?_
          ·have h23:=zbq.symm.trans h23;refine⟨d,rfl,by omega,?_⟩;refine⟨_,zcY (zae hbX (hat d (by omega))),?_⟩;refine biE (fun h24=>?_) fun h24=>?_
           ·have h24:=zaO.symm.trans h24;refine biE (fun h25=>?_) fun h25=>?_
            ·have h25:=notB h25;exact badpr4 hbX (by unfold pr4;simp [zaH,isW,isR,h1,h18,h19,h20,h21,h22,h23,h24,h25])
            ·have h25:=notF h25;refine nxI (by omega) ?_;exact⟨d+1,⟨.cons rfl (.cons rfl (.cons rfl (.cons rfl (.cons rfl (.cons rfl (.nil)))))),rfl⟩,⟨hdn,good (by unfold pr4;simp [zaH,isW,isR,h1,h18,h19,h20,h21,h22,h23,h24,h25]),fX,hbX⟩,zdc (by omega)⟩
           ·have h24:=zaO.symm.trans h24;refine brT ?_;exact badpr4 hbX (by unfold pr4;simp [zaH,isW,isR,h1,h18,h19,h20,h21,h22,h23,h24])
          ·have h23:=zbq.symm.trans h23
           cases h20.symm.trans h23
         ·cases h19.symm.trans h22
        ·refine brF ?_;refine nxI (by omega) ?_;exact⟨d+1,⟨.cons rfl (.cons rfl (.cons rfl (.cons rfl (.cons rfl (.cons rfl (.nil)))))),rfl⟩,⟨hdn,good (by unfold pr4;simp [zaH,isW,isR,h1,h18,h19,h20,h21]),fX,hbX⟩,zdc (by omega)⟩
      ·refine brT ?_;refine brT ?_;exact badpr4 hbX (by unfold pr4;simp [zaH,isW,isR,h1,h18,h19])
     ·refine brF ?_;refine⟨_,zad _,r_rm fX,hlt fX,?_⟩;refine cmo (zbB hv.rm (by omega) (by omega)) ?_;rintro e U ⟨rfl,hbU⟩;have fX:=zaa hbU fX;replace hbX:=zst hbX hbU;refine biE (fun h26=>?_) fun h26=>?_
      ·refine biE (fun h27=>?_) fun h27=>?_
       ·refine⟨a,rfl,by omega,?_⟩;refine⟨_,zcY (zae hbX (hat a (by omega))),?_⟩;refine biE (fun h28=>?_) fun h28=>?_
        ·have h28:=zbq.symm.trans h28;refine⟨d,rfl,by omega,?_⟩;refine⟨_,zcY (zae hbX (hat d (by omega))),?_⟩;refine biE (fun h29=>?_) fun h29=>?_
         ·have h29:=zaO.symm.trans h29;refine biE (fun h30=>?_) fun h30=>?_
          ·have h30:=notB h30;exact badpr4 hbX (by unfold pr4;simp [zaH,isW,isR,h1,h18,h26,h27,h28,h29,h30])
          ·have h30:=notF h30;refine nxI (by omega) ?_;exact⟨d+1,⟨.cons rfl (.cons rfl (.cons rfl (.cons rfl (.cons rfl (.cons rfl (.nil)))))),rfl⟩,⟨hdn,good (by unfold pr4;simp [zaH,isW,isR,h1,h18,h26,h27,h28,h29,h30]),fX,hbX⟩,zdc (by omega)⟩
         ·have h29:=zaO.symm.trans h29;refine brT ?_;exact badpr4 hbX (by unfold pr4;simp [zaH,isW,isR,h1,h18,h26,h27,h28,h29])
        ·have h28:=zbq.symm.trans h28;refine brF ?_;refine brT ?_;exact badpr4 hbX (by unfold pr4;simp [zaH,isW,isR,h1,h18,h26,h27,h28])
       ·refine brF ?_;refine brF ?_;refine brT ?_;exact badpr4 hbX (by unfold pr4;simp [zaH,isW,isR,h1,h18,h26,h27])
      ·refine brF ?_;refine nxI (by omega) ?_;exact⟨d+1,⟨.cons rfl (.cons rfl (.cons rfl (.cons rfl (.cons rfl (.cons rfl (.nil)))))),rfl⟩,⟨hdn,good (by unfold pr4;simp [zaH,isW,isR,h1,h18,h26]),fX,hbX⟩,zdc (by omega)⟩
   ·have hc:¬ (d:Int)<(x.ev.length:Int):=dF hc;refine nxI (by omega) ?_;exact⟨a+1,⟨.cons rfl (.cons rfl (.cons rfl (.cons rfl (.cons rfl (.nil))))),rfl⟩,⟨han,zbz hallA (zdI fun i hi=>hallD i (by omega)),fX,hbX⟩,zdc (by omega)⟩
  ·have hc:¬ (a:Int)<(x.ev.length:Int):=dF hc;exact⟨(),⟨.cons rfl (.cons rfl (.cons rfl (.cons rfl (.nil)))),rfl⟩,zdI fun i hi=>hallA i (by omega),fX,hbX⟩
 clear fX hbX;rintro _ X ⟨hpairs,fX,hbX⟩;rw [hpairs,Bool.true_and] at hright;refine⟨Unit,fun _=>⟨[(1,At0 L),(3,.slice (some ⟨bq,oq,none⟩) x.ev.length c),(4,i64 x.ev.length),(5,i64 (locs:Nat))],[]⟩,fun _ Z=>(List.range x.ev.length).all (zeD x)=true/\ExH Z L x (some ⟨bq,oq,none⟩) c/\Bw w Z,?_,?_⟩
 ·refine⟨Nat,fun a=>⟨[(1,At0 L),(3,.slice (some ⟨bq,oq,none⟩) x.ev.length c),(4,i64 x.ev.length),(5,i64 (locs:Nat)),(12,i64 (a:Nat))],[]⟩,fun a Z=>a<=x.ev.length/\(∀ i,i<a->zeD x i=true)/\ExH Z L x (some ⟨bq,oq,none⟩) c/\Bw w Z,fun a=>x.ev.length-a,0,⟨.cons rfl (.cons rfl (.cons rfl (.cons rfl (.cons rfl (.nil))))),rfl⟩,⟨Nat.zero_le _,fun i hi=>by omega,fX,hbX⟩,?_⟩;clear fX hbX;rintro a X ⟨ha,hallA,fX,hbX⟩;dsimp only;refine biE (fun hc=>?_) fun hc=>?_
  ·have hc:(a:Int)<(x.ev.length:Int):=dT hc;have han:a<x.ev.length:=by omega
   have bad:∀ {Z:World},Bw w Z->zeD x a=false->(Ending.returned (.bool false)=Ending.returned (.bool (zdM x))/\Bw w Z):=fun {Z} hb h=>⟨rb (by
    have:(List.range x.ev.length).all (zeD x)=false:=zdg han h;rw [hright,this];rfl),hb⟩
   refine⟨a,rfl,by omega,?_⟩;refine⟨_,zcY (zae hbX (hat a (by omega))),?_⟩;refine biE (fun h1=>?_) fun h1=>?_
   ·have h1:=zbq.symm.trans h1;refine⟨_,zad _,r_rf fX,hlt fX,?_⟩;refine cmo (zfW (n:=x.ev.length) (a:=a) hv.rf nrf (by omega) (by omega)) ?_;rintro e U ⟨rfl,hbU⟩;have fX:=zaa hbU fX;replace hbX:=zst hbX hbU;refine biE (fun h2=>?_) fun h2=>?_
    ·have h2:=(zer (a:=(zb1 x.rf a)) (b:=1)).symm.trans (notB h2);exact bad hbX (by unfold zeD;simp [isR,h1,h2])
    ·have h2:=(zer (a:=(zb1 x.rf a)) (b:=1)).symm.trans (notF h2);refine⟨_,zad _,r_rm fX,hlt fX,?_⟩;refine cmo (zh3 (n:=x.ev.length) (a:=a) hv.rm nrm (by omega) (by omega)) ?_;rintro e U ⟨rfl,hbU⟩;have fX:=zaa hbU fX;replace hbX:=zst hbX hbU;refine biE (fun h11=>?_) fun h11=>?_
     ·have h11:=notB ((zfw (a:=(zcd x.rm a))).symm.trans h11);refine brT ?_;exact bad hbX (by unfold zeD;simp [isR,h1,h2,h11])
     ·have h11:=notF ((zfw (a:=(zcd x.rm a))).symm.trans h11);refine⟨_,zad _,r_rm fX,hlt fX,?_⟩;refine cmo (zfW (n:=x.ev.length) (a:=a) hv.rm nrm (by omega) (by omega)) ?_;rintro e U ⟨rfl,hbU⟩;have fX:=zaa hbU fX;replace hbX:=zst hbX hbU;refine biE (fun h12=>?_) fun h12=>?_
      ·have h12:=notB ((zfw (a:=(zb1 x.rm a))).symm.trans h12);exact bad hbX (by unfold zeD;simp [isR,h1,h2,h11,h12])
      ·have h12:=notF ((zfw (a:=(zb1 x.rm a))).symm.trans h12);refine nxI (by omega) ?_;exact⟨a+1,⟨.cons rfl (.cons rfl (.cons rfl (.cons rfl (.cons rfl (.nil))))),rfl⟩,⟨han,zbz hallA (by unfold zeD;simp [isR,h1,h2,h11,h12]),fX,hbX⟩,zdc (by omega)⟩
   ·have h1:=zbq.symm.trans h1;refine brF ?_;refine⟨_,zad _,r_rm fX,hlt fX,?_⟩;refine cmo (zh3 (n:=x.ev.length) (a:=a) hv.rm nrm (by omega) (by omega)) ?_;rintro e U ⟨rfl,hbU⟩;have fX:=zaa hbU fX;replace hbX:=zst hbX hbU;refine biE (fun h11=>?_) fun h11=>?_
    ·have h11:=notB ((zfw (a:=(zcd x.rm a))).symm.trans h11);refine brT ?_;exact bad hbX (by unfold zeD;simp [isR,h1,h11])
    ·have h11:=notF ((zfw (a:=(zcd x.rm a))).symm.trans h11);refine⟨_,zad _,r_rm fX,hlt fX,?_⟩;refine cmo (zfW (n:=x.ev.length) (a:=a) hv.rm nrm (by omega) (by omega)) ?_;rintro e U ⟨rfl,hbU⟩;have fX:=zaa hbU fX;replace hbX:=zst hbX hbU;refine biE (fun h12=>?_) fun h12=>?_
     ·have h12:=notB ((zfw (a:=(zb1 x.rm a))).symm.trans h12);exact bad hbX (by unfold zeD;simp [isR,h1,h11,h12])
     ·have h12:=notF ((zfw (a:=(zb1 x.rm a))).symm.trans h12);refine nxI (by omega) ?_;exact⟨a+1,⟨.cons rfl (.cons rfl (.cons rfl (.cons rfl (.cons rfl (.nil))))),rfl⟩,⟨han,zbz hallA (by unfold zeD;simp [isR,h1,h11,h12]),fX,hbX⟩,zdc (by omega)⟩
  ·have hc:¬ (a:Int)<(x.ev.length:Int):=dF hc;exact⟨(),⟨.cons rfl (.cons rfl (.cons rfl (.cons rfl (.nil)))),rfl⟩,zdI fun i hi=>hallA i (by omega),fX,hbX⟩
 clear fX hbX;rintro _ X ⟨hcnts,fX,hbX⟩;rw [hcnts,Bool.true_and] at hright;refine⟨_,zao _ _ _,zab fX,hlt fX,?_⟩;refine cmo (zn9 (hv.below hbX) (by omega) nco (by omega)) ?_;rintro e U ⟨rfl,hbU⟩;exact⟨rb hright.symm,(zst hbX hbU)⟩
end
section
variable {w:World} {c:Nat} {x:ExD} {q:Option Addr}
theorem zq9 {m:UInt8} (hv:ExV w x q):CB 14 #[u8 m,.agg (exC x q c).toArray] w (.bool (zbh m.toNat&&zaL x)):=by
 refine cofM 15 [u8 m,.agg (exC x q c).toArray] (.c .p .p) Tryz.func14 ?_;obtain⟨L,hL⟩:=nm (w.heap.size);refine⟨Unit,fun _=>⟨[(0,u8 m),(3,At0 L)],[]⟩,fun _ X=>ExH X L x q c/\Bw w X,⟨(),⟨.cons rfl (.cons (by rw [hL];rfl) .nil),rfl⟩,by rw [hL];exact hnew w _,(zba w _)⟩,?_⟩;rintro _ X ⟨fX,hbX⟩;refine biE (fun h=>?_) fun h=>?_
 ·have h:(1:Int)<=(m.toNat:Int):=dT h;refine biE (fun h2=>?_) fun h2=>?_
  ·have h2:(m.toNat:Int)<=6:=dT h2;refine⟨exC x q c,zao _ _ _,zab fX,hlt fX,?_⟩;refine cmo (zi3 (hv.below hbX)) ?_;rintro e Y ⟨rfl,hbY⟩;refine⟨rb ?_,(zst hbX hbY)⟩;unfold zbh;rw [decide_eq_true (by omega:1<=m.toNat),decide_eq_true (by omega:m.toNat<=6)];rfl
  ·have h2:¬ (m.toNat:Int)<=6:=dF h2;refine⟨rb ?_,hbX⟩;unfold zbh;rw [decide_eq_false (by omega:¬ m.toNat<=6),Bool.and_false];rfl
 ·have h:¬ (1:Int)<=(m.toNat:Int):=dF h;refine brF ?_;refine⟨rb ?_,hbX⟩;unfold zbh;rw [decide_eq_false (by omega:¬ 1<=m.toNat)];rfl
end
end Go.Proofs.YtmbghmhjjodgmaaGreatDoor
namespace Go.Sei
def zeL (ns:List Nat):Nat:=ns.foldl (· * ·) 1
theorem zgW (ns:List Nat) (n:Nat):zeL (ns++[n])=zeL ns*n:=by
 unfold zeL;rw [List.foldl_append];rfl
def zmG (init:List UInt8) (Ts:List (List PathD)):List MixD:=(zeC (Ts.map List.length)).filterMap fun ds=>mixR init (zeN Ts ds)
theorem zgX:∀ (Ts:List (List PathD)) (ds:List Nat) (T:List PathD) (d:Nat),Ts.length=ds.length->zeN (Ts++[T]) (ds++[d])=zeN Ts ds++(match T[d]? with | some P=>[P] | none=>[])
 | [],[],T,d,_=>by
  show (match T[d]? with | some P=>[P] | none=>[])++[]=_;rw [List.append_nil];rfl
 | [],_::_,_,_,h=>by simp at h
 | _::_,[],_,_,h=>by simp at h
 | A::Ts,e::ds,T,d,h=>by
  show (match A[e]? with | some P=>[P] | none=>[])++zeN (Ts++[T]) (ds++[d])=((match A[e]? with | some P=>[P] | none=>[])++zeN Ts ds)++_;rw [zgX Ts ds T d (by simpa using h),List.append_assoc]
theorem zlb (ns:List Nat) (n:Nat):zbf (ns++[n])=zbf ns*n:=by
 rw [zeM];show _*(n*1)=_;rw [Nat.mul_one]
theorem ziQ:∀ (ns:List Nat) (a:Nat),ns.foldl (· * ·) a=a*zbf ns
 | [],a=>(Nat.mul_one a).symm
 | n::ns,a=>by
  show ns.foldl (· * ·) (a*n)=a*(n*zbf ns);rw [ziQ ns,Nat.mul_assoc]
theorem zmq:∀ ns:List Nat,zbf ns.reverse=zeL ns:=fun ns=>by
 have h:∀ l:List Nat,zbf l.reverse=zbf l:=fun l=>by
  induction l with
  | nil=>rfl
  | cons n l ih =>
   rw [List.reverse_cons,zlb,ih];exact Nat.mul_comm _ _
 rw [h];unfold zeL;rw [ziQ,Nat.one_mul]
end Go.Sei
namespace Go.Proofs.YtmbghmhjjodgmaaGreatDoor
open Go.Vc Go.RowKit Go.Sei
theorem zqV {b o:Nat} {w:World}:Calls Tryz.prog 85 #[.pointer (some ⟨b,o,none⟩)] w fun e w'=>e = .returned (.func (.func 117) #[] #[At0 w.heap.size])/\w'.heap[w.heap.size]?=some (.cells #[.pointer (some ⟨b,o,none⟩)] 171 (0,0))/\w'.heap.size=w.heap.size+1/\Bw w w':=by
 refine cofE 4 [.pointer (some ⟨b,o,none⟩)] Tryz.func85 ?_;exact⟨rfl,hnew w _,wz _ _,(zba w _)⟩
def NInX (B:Nat) (F:Nat->Prop) (Y:World) (x:exE3):Prop:=OwnS evE 54 B Y x.2.1 x.2.2 x.1.ev/\∀ a,x.2.1=some a->F a.block
theorem zgc (B:Nat):zlB 34 61 (NInX B):=by
 rintro F G Y Z x ⟨h1,h2⟩ hs hg;refine⟨h1.same fun a ha=>?_,fun a ha=>hg _ (h2 a ha)⟩;obtain⟨_,_,cur,hc⟩:=zav h1 ha;exact hs _ cur _ (h2 a ha) hc (by decide) (by decide)
theorem zjT {B B1 bx c0:Nat} {p0:Option Addr} {l0:List exE3} {xs:List ExD} {w W0:World} {Rd:Nat->Prop} {pm:Value} (ho:OwnS exE 34 B w p0 c0 l0) (hn:∀ x∈l0,OwnS evE 54 B w x.2.1 x.2.2 x.1.ev) (hB:B<=w.heap.size)
  (hI:zrd Tryz.prog 117 [At0 bx] xs W0 Rd (StX B1) GvX) (hW0:W0.heap.size<=w.heap.size) (hRd:∀ k,Rd k->k<W0.heap.size/\w.heap[k]?=W0.heap[k]?) (hRB:∀ k,Rd k->k<B\/k=bx) (fb:w.heap[bx]?=some (.cells #[pm] 171 (0,0))) (hB1:B<=B1) (hlen:l0.length+xs.length<=30000) :
  Calls Tryz.prog 84 #[.slice p0 l0.length c0,.func (.func 117) #[] #[At0 bx]] w fun e w'=>(∃ (new:List exE3) (p:Option Addr) (c:Nat),e = .returned (.slice p (l0++new).length c)/\new.map (·.1)=xs/\OwnS exE 34 B w' p c (l0++new)/\∀ x∈l0++new,OwnS evE 54 B w' x.2.1 x.2.2 x.1.ev)/\Below B w w':=by
 refine cofM 13 [.slice p0 l0.length c0,.func (.func 117) #[] #[At0 bx]] (.c .p .p) Tryz.func84 ?_;obtain⟨L,hL⟩:=nm (w.heap.size);refine⟨Unit,fun _=>⟨[(1,.func (.func 117) #[] #[At0 bx]),(2,At0 L)],[]⟩,fun _ X=>X.heap[L]?=some (.cells [.slice p0 l0.length c0].toArray 61 (0,0))/\X.heap.size=L+1/\Bw w X,?_,?_⟩
 ·exact⟨(),⟨.cons rfl (.cons (by rw [hL];rfl) .nil),rfl⟩,by rw [hL];exact hnew w _,by rw [hL];exact wz _ _,(zba w _)⟩
 rintro _ W ⟨fL,sW,hbW⟩;have hbxw:=hlt fb;obtain⟨F0,hF0⟩:∃ F0:Nat->Prop,F0=fun k=>k=L\/(∃ a,p0=some a/\k=a.block)\/∃ x∈l0,∃ a,x.2.1=some a/\k=a.block:=⟨_,rfl⟩;have hF0B:∀ k,F0 k->B<=k/\k<W.heap.size/\(k≠L->k≠bx):=by
  intro k hk;rw [hF0] at hk;rcases hk with rfl | ⟨a,ha,rfl⟩ | ⟨x,hx,a,ha,rfl⟩
  ·exact⟨by omega,by omega,fun h=>(h rfl).elim⟩
  ·obtain⟨h1,h2,cur,h3⟩:=zav ho ha;exact⟨h1,by omega,fun _ e=>by rw [e,fb] at h3;simp at h3⟩
  ·obtain⟨h1,h2,cur,h3⟩:=zav (hn x hx) ha;exact⟨h1,by omega,fun _ e=>by rw [e,fb] at h3;simp at h3⟩
 have hG0:Gath exE 34 61 B W.heap.size L W (NInX B) l0 F0 W:=by
  refine⟨Nat.le_refl _,by rw [hF0];exact .inl rfl,fun k hk=>(hF0B k hk).2.1,⟨p0,c0,fL,ho.below hbW,fun a ha=>by rw [hF0];exact .inr (.inl ⟨a,ha,rfl⟩)⟩,fun x hx=>⟨(hn x hx).below hbW,fun a ha=>by rw [hF0];exact .inr (.inr ⟨x,hx,a,ha,rfl⟩)⟩,Below.refl _ _⟩
 refine zrv (sgOk _) rfl (lb := #[At0 bx]) rfl rfl hI (fun pre vs W k ⟨x,q,c,h1,h2,h3⟩ ⟨x',a,c',h4,h5⟩=>?_) (by have:=hbW.size;omega) (fun k hk=>⟨(hRd k hk).1,?_⟩) (fun pre vs W ⟨x,q,c,_,h,_⟩=>by rw [h];rfl) (by decide)
  F0 (fun pre F Y=>∃ xs',(∃ new,xs'=l0++new/\new.map (·.1)=pre/\new.length<=xs.length)/\Gath exE 34 61 B W.heap.size L W (NInX B) xs' F Y) (fun k hk=>?_) (Gath.iter (zgc B) (by omega)) ⟨l0,⟨[],by simp,rfl,Nat.zero_le _⟩,hG0⟩ ?_ ?_
 ·rw [h2] at h4;have h6:exC x q c=exC x' (some a) c':=by
   have h7:=Value.agg.inj (List.head_eq_of_cons_eq h4);simpa using h7
  have h8:Value.slice q x.ev.length c=Value.slice (some a) x'.ev.length c':=List.head_eq_of_cons_eq h6;have h9:q=some a:=by injection h8
  obtain⟨_,_,cur,hc⟩:=zav h3 h9;rw [h5];exact⟨_,_,_,hc⟩
 ·rw [<- (hRd k hk).2];exact hbW.block k (by have:=(hRd k hk).1;omega)
 ·intro h;obtain⟨h1,h2,h3⟩:=hF0B k h;have h4:=(hRd k hk).1;rcases hRB k hk with h5 | h5
  ·omega
  ·exact h3 (by omega) h5
 ·rintro yl pre x vs F Y hyl hpre ⟨xs',⟨new,rfl,hnew',hnl⟩,hG⟩ ⟨x',q,c,hlast,rfl,oq⟩ hgv hfy ⟨lo,hlo⟩;have hxx:x=x':=by simpa using hlast
  subst hxx;have hYs:=hG.size;refine zan (X:=Y) (v := .agg (exC x q c).toArray) k34 (zao _ _ _) zbI (zde _ _ _) fun Z hbZ fZ sZ=>?_;have fZ:ExH Z Y.heap.size x q c:=fZ;obtain⟨F1,hF1⟩:∃ F1:Nat->Prop,F1=fun k=>F k\/GvX [.agg (exC x q c).toArray] k:=⟨_,rfl⟩;rw [<- hF1];have hq1:∀ a,q=some a->F1 a.block:=fun a ha=>by
   rw [hF1];exact .inr ⟨x,a,c,by rw [ha],rfl⟩
  have hgq:∀ k,GvX [.agg (exC x q c).toArray] k->∃ a,q=some a/\k=a.block:=by
   rintro k ⟨x',a,c',h4,h5⟩;have h6:exC x q c=exC x' (some a) c':=by
    have h7:=Value.agg.inj (List.head_eq_of_cons_eq h4);simpa using h7
   have h8:Value.slice q x.ev.length c=Value.slice (some a) x'.ev.length c':=List.head_eq_of_cons_eq h6;have h9:q=some a:=by injection h8
   exact⟨a,h9,h5⟩
  have hlt1:∀ k,F1 k->k<Y.heap.size:=fun k hk=>by
   rw [hF1] at hk;rcases hk with hk | hk
   ·exact hG.lt k hk
   ·obtain⟨a,ha,rfl⟩:=hgq k hk;exact (zav oq ha).2.1
  have hFF:∀ k,F k->F1 k:=fun k hk=>by rw [hF1];exact .inl hk
  have hG1:Gath exE 34 61 B W.heap.size L W (NInX B) (l0++new) F1 Z:=by
   obtain⟨p,c',h1,h2,h3⟩:=hG.row;have sZ:=hbZ.size;exact⟨by omega,hFF _ hG.inL,fun k hk=>by have:=hlt1 k hk;omega,⟨p,c',zaa hbZ h1,h2.below hbZ,fun a ha=>hFF _ (h3 a ha)⟩,fun y hy=>⟨(hG.nest y hy).1.below hbZ,fun a ha=>hFF _ ((hG.nest y hy).2 a ha)⟩,hG.old.trans (hbZ.mono (by omega))⟩
  refine⟨rfl,F1,KeepsG.below hbZ fun k hk => .inl hk,⟨_,⟨new,rfl,hnew',hnl⟩,hG1⟩,?_⟩;rintro O Y2 hY2 ⟨xs2,⟨new2,rfl,hnew2,hnl2⟩,hG2⟩;clear hG1 hnew' hnl hG;have hYl:=hlt hlo;have fY:ExH Y2 Y.heap.size x q c:=by rw [hY2];exact (zag (by omega)).trans fZ
  have oq2:OwnS evE 54 B1 Y2 q c x.ev:=by
   rw [hY2];refine (oq.below hbZ).same fun a ha=>zag fun e=>?_;obtain⟨_,_,cur,hc⟩:=zav oq ha;rw [e,hlo] at hc
   cases hc
  obtain⟨p,c',h4,h5,h6⟩:=hG2.row;refine⟨_,zac (zab h4) (i:=0) rfl,?_⟩;refine⟨exC x q c,zao _ _ _,zab fY,hlt fY,?_⟩;obtain⟨nx,hnx⟩:∃ nx:exE3,nx=(x,q,c):=⟨_,rfl⟩;have hen:exC x q c=exE.enc nx:=by rw [hnx];rfl
  have hpl:pre.length<xs.length:=by
   obtain⟨t,ht⟩:=hpre;rw [<- ht];simp only [lap,List.length_cons];omega
  have hn2:new2.length=pre.length:=by rw [<- hnew2,List.length_map]
  refine⟨⟨by decide,by decide,zbI⟩,exE.enc nx,by rw [<- hen];exact zcK (zao _ _ _) zbI,?_⟩;have hw2:W.heap.size<=Y2.heap.size:=hG2.size;obtain⟨v,Y5,hrun,S,hrun2,F',hG',hK',hFF'⟩:=hG2.stepX (P:=Tryz.prog) (ty:=61) (cap1:=1) (zgc B) (by decide) Tryz.underlying61 k34 rfl rfl (by show _=333;exact zbI) k61 rfl (by omega) (by omega) (Below.refl _ _) nx (by rw [lap];omega) (by rw [lap];show (_+1)*2416<=_;omega)
   (fun G Z _ _ h3 h4=>zgc B F1 G Y2 Z nx ⟨by rw [hnx];exact oq2.lower hB1,fun a ha=>by rw [hnx] at ha;exact hq1 a ha⟩ h3 h4) p c' h4
  unfold opsE zda;refine SatR.mk hrun ?_;refine SatR.mk hrun2 ?_;exact⟨F',⟨_,⟨new2++[nx],by rw [List.append_assoc],by rw [List.map_append,hnew2,hnx];rfl,by rw [lap];show _+1<=_;omega⟩,hG'⟩,hK'⟩
 ·rintro D F Y hD hfD ⟨xs',⟨new,rfl,hnew',hnl⟩,hG⟩ hdef;obtain⟨p,c',h4,h5,h6⟩:=hG.row;refine⟨_,zac (zab h4) (i:=0) rfl,?_⟩;refine⟨_,rfl,hdef,?_⟩;have kp:∀ a:Addr,F a.block->(Y.putObj D (.deferred none)).heap[a.block]?=Y.heap[a.block]?:=fun a h2=>zag fun e=>by rw [<- e] at hfD;exact hfD h2
  exact⟨⟨new,p,c',rfl,hnew',h5.same fun a ha=>kp a (h6 a ha),fun x hx=>(hG.nest x hx).1.same fun a ha=>kp a ((hG.nest x hx).2 a ha)⟩,zbG ((hbW.mono hB).trans hG.old) (by omega) _⟩
structure MixX where
 m:MixD
 q:Option Addr
 c:Nat
 p1:Option Addr
 c1:Nat
 p2:Option Addr
 c2:Nat
 p3:Option Addr
 c3:Nat
 xs:List NatL
 ys:List NatL
def mixC (x:MixX):List Value:=exC x.m.base x.q x.c++[.slice x.p1 x.m.rs.length x.c1,.slice x.p2 x.xs.length x.c2,.slice x.p3 x.ys.length x.c3]
theorem zoj (x:MixX):(mixC x).length=336:=by
 unfold mixC;rw [lap,zao];rfl
theorem zkl (x:MixX):(mixC x).all Value.oneCell'=true:=by
 unfold mixC;rw [List.all_append,zde];rfl
def mixE:Enc MixX:=⟨mixC,336,zoj,by decide,fun a u hu=>List.all_eq_true.1 (zkl a) u hu⟩
structure NInM (B:Nat) (F:Nat->Prop) (Y:World) (x:MixX):Prop where
 e2:x.xs.map (·.1)=x.m.rs.map (·.2)
 e3:x.ys.map (·.1)=x.m.wr
 ev:RowIn evE 54 B F Y x.q x.c x.m.base.ev
 r1:RowIn natE 3 B F Y x.p1 x.c1 (x.m.rs.map (·.1))
 r2:RowIn zbR 108 B F Y x.p2 x.c2 x.xs
 n2:∀ y∈x.xs,RowIn natE 3 B F Y y.2.1 y.2.2 y.1
 r3:RowIn zbR 108 B F Y x.p3 x.c3 x.ys
 n3:∀ y∈x.ys,RowIn natE 3 B F Y y.2.1 y.2.2 y.1
theorem NInM.same {B:Nat} {F G:Nat->Prop} {Y Z:World} {x:MixX} (h:NInM B F Y x) (k:∀ {α:Type} {E:Enc α} {T c:Nat} {q:Option Addr} {l:List α},T≠119->T≠113->T≠4->RowIn E T B F Y q c l->RowIn E T B G Z q c l):NInM B G Z x :=
 ⟨h.e2,h.e3,k (by decide) (by decide) (by decide) h.ev,k (by decide) (by decide) (by decide) h.r1,k (by decide) (by decide) (by decide) h.r2,fun y hy=>k (by decide) (by decide) (by decide) (h.n2 y hy),k (by decide) (by decide) (by decide) h.r3,fun y hy=>k (by decide) (by decide) (by decide) (h.n3 y hy)⟩
theorem NInM.lower {B B':Nat} {F:Nat->Prop} {Y:World} {x:MixX} (h:NInM B F Y x) (hB:B'<=B):NInM B' (fun k=>B'<=k) Y x:=by
 have k:∀ {α:Type} {E:Enc α} {T c:Nat} {q:Option Addr} {l:List α},RowIn E T B F Y q c l->RowIn E T B' (fun k=>B'<=k) Y q c l:=fun {α E T c q l} hr=>⟨hr.own.lower hB,fun a ha=>(zav (hr.own.lower hB) ha).1⟩;exact⟨h.e2,h.e3,k h.ev,k h.r1,k h.r2,fun y hy=>k (h.n2 y hy),k h.r3,fun y hy=>k (h.n3 y hy)⟩
theorem ziA (B:Nat):zlB 119 113 (NInM B):=by
 rintro F G Y Z x h hs hg;refine h.same fun {α E T c q l} t1 t2 _ hr=>⟨hr.own.same fun a ha=>?_,fun a ha=>hg _ (hr.inF a ha)⟩;obtain⟨_,_,cur,hc⟩:=zav hr.own ha;exact hs _ cur _ (hr.inF a ha) hc t1 t2
abbrev TpR:=List PthR×Option Addr×Nat
def tpE:Enc TpR where
 sz:=1
 enc x:=[.slice x.2.1 x.1.length x.2.2]
 len x:=rfl
 one x v hv:=by
  simp at hv;subst hv;rfl
 pos:=by decide
structure MxS (B:Nat) (Z:World) (L bP:Nat) (ss:List Nat) (ps:Option Addr) (cs:Nat) (ts:List TpR) (pT:Option Addr) (cT:Nat):Prop where
 f0:Z.heap[L]?=some (.cells #[At0 bP] 116 (0,0))
 f1:Z.heap[L+1]?=some (.cells #[.slice none 0 0] 113 (0,0))
 f2:Z.heap[L+2]?=some (.cells #[.bool false] 4 (0,0))
 f3:Z.heap[L+3]?=some (.cells #[.slice pT ts.length cT] 159 (0,0))
 own:OwnS natE 3 B Z ps cs ss
 rk:OwnS tpE 160 B Z pT cT ts
 n1:∀ z∈ts,OwnS pthE 168 B Z z.2.1 z.2.2 z.1
 n2:∀ z∈ts,∀ x∈z.1,PthO B Z x
theorem PthO.same {B:Nat} {Y Z:World} {x:PthR} (h:PthO B Y x) (k:∀ {α:Type} {E:Enc α} {T c:Nat} {q:Option Addr} {l:List α},T=54\/T=238->OwnS E T B Y q c l->OwnS E T B Z q c l):PthO B Z x :=
 ⟨k (.inl rfl) h.1,k (.inr rfl) h.2.1,k (.inr rfl) h.2.2.1,k (.inr rfl) h.2.2.2⟩
theorem MxS.below {B:Nat} {Z Y:World} {L bP:Nat} {ss:List Nat} {ps:Option Addr} {cs:Nat} {ts:List TpR} {pT:Option Addr} {cT:Nat} (h:MxS B Z L bP ss ps cs ts pT cT) (hb:Bw Z Y):MxS B Y L bP ss ps cs ts pT cT :=
 ⟨zaa hb h.f0,zaa hb h.f1,zaa hb h.f2,zaa hb h.f3,h.own.below hb,h.rk.below hb,fun z hz=>(h.n1 z hz).below hb,fun z hz x hx=>(h.n2 z hz x hx).same fun {α E T c q l} _ ho=>ho.below hb⟩
theorem MxS.size {B:Nat} {Z Y:World} {L bP n:Nat} {ss:List Nat} {ps ps':Option Addr} {cs cs':Nat} {ts:List TpR} {pT:Option Addr} {cT:Nat} (h:MxS B Z L bP ss ps cs ts pT cT) (ho:OwnS natE 3 B Y ps' cs' (ss++[n])) (g:Z.grownBy Y (ps.map Addr.block)):MxS B Y L bP (ss++[n]) ps' cs' ts pT cT :=
 ⟨zaV h.f0 h.own (by decide) g,zaV h.f1 h.own (by decide) g,zaV h.f2 h.own (by decide) g,zaV h.f3 h.own (by decide) g,ho,zb7 h.rk h.own (by decide) g,fun z hz=>zb7 (h.n1 z hz) h.own (by decide) g,fun z hz x hx=>(h.n2 z hz x hx).same fun {α E T c q l} ht hoo=>zb7 hoo h.own (by rcases ht with rfl | rfl <;> decide) g⟩
theorem appT {B c:Nat} {V1:World} {p:Option Addr} {l:List TpR} {y:TpR} {a:Addr} (ho:OwnS tpE 160 B V1 p c l) (ha:zaw V1 a ([y].flatMap tpE.enc)) (hB:B<=V1.heap.size) (hl:l.length<=100000) {K:Value->World->Prop}
  (h:∀ p' c' w',OwnS tpE 160 B w' p' c' (l++[y])->V1.grownBy w' (p.map Addr.block)->(∀ a,p'=some a->p=some a\/a.block=V1.heap.size)->K (.slice p' (l++[y]).length c') w') :
  SatR ((Builtin.append_ #[159,159] 159 #[.slice p l.length c,.slice (some a) 1 1]).run Tryz.prog V1) K :=
 zbH (E:=tpE) (T:=160) (B:=B) (l:=l) (news:=[y]) (cap:=c) (m:=1) Tryz.underlying159 k160 rfl rfl rfl ho rfl ha hB (by omega) (by show (l.length+1)*24<=_;omega) fun p' c' w' a1 a2 _ a4=>h p' c' w' a1 (by rw [zcD] at a2;exact a2) a4
theorem appP {B c:Nat} {V1:World} {p:Option Addr} {l:List PthR} {y:PthR} {a:Addr} (ho:OwnS pthE 168 B V1 p c l) (ha:zaw V1 a ([y].flatMap pthE.enc)) (hB:B<=V1.heap.size) (hl:l.length<=100000) {K:Value->World->Prop}
  (h:∀ p' c' w',OwnS pthE 168 B w' p' c' (l++[y])->V1.grownBy w' (p.map Addr.block)->(∀ a,p'=some a->p=some a\/a.block=V1.heap.size)->K (.slice p' (l++[y]).length c') w') :
  SatR ((Builtin.append_ #[160,160] 160 #[.slice p l.length c,.slice (some a) 1 1]).run Tryz.prog V1) K :=
 zbH (E:=pthE) (T:=168) (B:=B) (l:=l) (news:=[y]) (cap:=c) (m:=1) Tryz.underlying160 k168 rfl rfl rfl ho rfl ha hB (by omega) (by show (l.length+1)*104<=_;omega) fun p' c' w' a1 a2 _ a4=>h p' c' w' a1 (by rw [zcD] at a2;exact a2) a4
structure ThrQ (V:List UInt8) (l:List InsD):Prop where
 l12:l.length<=12
 ex:∀ x∈l,ExOk x
 ok:zbX l 6=true
 m:(zc1 l (ded V)).length<=4096
abbrev zaE (V:List UInt8) (l:List InsD):List PathD:=(zc1 l (ded V)).map zff
def wrE (R:RunD) (i:Nat) (v:UInt8):Bool:=(List.range i).any fun j=>decide ((R.ev j).k=2)&&decide ((R.ev j).v=v)
def wrL (rs:List RunD) (v:UInt8):Bool:=rs.any fun R=>wrE R R.many v
theorem zkT (rs:List RunD):zcj rs=zaU.filter (wrL rs):=rfl
def wrC (f:UInt8->Bool):List Value:=seg 256 fun i => .bool (f (UInt8.ofNat i))
theorem zlM (f:UInt8->Bool) {i:Nat} (h:i<256):(wrC f)[i]?=some (.bool (f (UInt8.ofNat i))):=zeH _ h
theorem zps (f:UInt8->Bool) (x:UInt8):(wrC f).set x.toNat (.bool true)=wrC fun v=>f v||decide (x=v):=by
 have hx:=x.toNat_lt;apply List.ext_getElem?;intro j;by_cases hj:j<256
 ·rw [zlM _ hj];by_cases e:x.toNat=j
  ·subst e;rw [List.getElem?_set_self (by unfold wrC;rw [zay];exact hx),UInt8.ofNat_toNat,decide_eq_true rfl,Bool.or_true]
  ·rw [List.getElem?_set_ne e,zlM _ hj];have:x≠UInt8.ofNat j:=fun h=>e (by rw [h,UInt8.toNat_ofNat'];omega);rw [decide_eq_false this,Bool.or_false]
 ·rw [List.getElem?_eq_none (by unfold wrC;rw [List.length_set,zay];omega),List.getElem?_eq_none (by unfold wrC;rw [zay];omega)]
theorem zlL (f:UInt8->Bool):(wrC f).length=256:=zay _ _
theorem znM (rs:List RunD) (R:RunD) (v:UInt8):wrL (rs++[R]) v=(wrL rs v||wrE R R.many v):=by
 unfold wrL;rw [List.any_append];simp
theorem znN (R:RunD) (i:Nat) (v:UInt8):wrE R (i+1) v=(wrE R i v||(decide ((R.ev i).k=2)&&decide ((R.ev i).v=v))):=by
 unfold wrE;rw [List.range_succ,List.any_append];simp
theorem zlo (p:UInt8->Bool) (x:UInt8):[x].filter p=if p x=true then [x] else []:=by
 rw [List.filter_cons,List.filter_nil]
theorem zoI {k:Nat} (h:k<256):∃ hl:k<zaU.length,zaU[k]=UInt8.ofNat k:=by
 have hl:zaU.length=256:=by unfold zaU;rw [List.length_map,List.length_range]
 refine⟨by rw [hl];exact h,?_⟩;simp [zaU]
theorem ztwr:List.replicate 256 (Value.bool false)=wrC fun _=>false:=by kernel_rfl
section
variable {l:List InsD} {dom:List UInt8} {q p:Option Addr} {cap cd:Nat} {w:World}
theorem znL (hl:SlR insE w q l) (hp:SlR zaR w p dom) (h12:l.length<=12) (hx:∀ x∈l,ExOk x) (hR:∀ R∈zc1 l dom,R.many<=24) (hm:(zc1 l dom).length<=4096) (hqb:∀ a,q=some a->a.block<w.heap.size) (hpb:∀ a,p=some a->a.block<w.heap.size) (hdl:dom.length<=1000) :
  Calls Tryz.prog 113 #[.slice q l.length cap,.slice p dom.length cd] w fun e w'=>(∃ (p':Option Addr) (c':Nat),e = .returned (.tuple #[.slice p' (zcj (zc1 l dom)).length c',.bool true])/\OwnS zaR 5 w.heap.size w' p' c' (zcj (zc1 l dom)))/\Bw w w':=by
 refine cofM 55 [.slice q l.length cap,.slice p dom.length cd] (.c .p (.c .p (.c .p (.c .p (.s .p (.c .p .p)))))) Tryz.func113 ?_;obtain⟨L,hL⟩:=nm (w.heap.size);refine⟨Unit,fun _=>⟨[(0,.slice q l.length cap),(1,.slice p dom.length cd),(4,AtR L),(5,AtR (L+1))],[]⟩,fun _ X=>X.heap[L]?=some (.cells #[.slice none 0 0] 65 (0,0))/\X.heap[L+1]?=some (.cells #[.bool false] 4 (0,0))/\X.heap.size=L+2/\Bw w X,?_,?_⟩
 ·have s1:=wz w (.cells #[.slice none 0 0] 65);have h2:=hnew (w.alloc (.cells #[.slice none 0 0] 65)) (.cells #[.bool false] 4);have s2:=wz (w.alloc (.cells #[.slice none 0 0] 65)) (.cells #[.bool false] 4);rw [s1] at h2 s2;refine⟨(),⟨.cons rfl (.cons rfl (.cons (by rw [hL];rfl) (.cons (by rw [hL,<- s1];rfl) .nil))),rfl⟩,?_,?_,?_,?_⟩
  ·rw [hL];exact hold _ (hnew w _)
  ·rw [hL];exact h2
  ·rw [hL];exact s2
  ·exact ((zba w _)).alloc (by simp) _
 rintro _ X ⟨f0,f1,sX,hbX⟩;refine⟨Unit,fun _=>⟨[(0,.slice q l.length cap),(1,.slice p dom.length cd),(4,AtR L),(5,AtR (L+1)),(6,AtR (L+2))],[]⟩,fun _ Y=>Y.heap[L+2]?=some (.cells (wrC fun _=>false).toArray 193 (0,0))/\Y.heap.size=L+3/\Bw X Y,?_,?_⟩
 ·refine⟨(),⟨.cons rfl (.cons rfl (.cons rfl (.cons rfl (.cons (by rw [<- sX];rfl) .nil)))),rfl⟩,?_,?_,?_⟩
  ·rw [<- sX,<- ztwr];exact hnew X _
  ·have:=wz X (.cells (List.replicate 256 (Value.bool false)).toArray 193);rw [sX] at this;exact this
  ·exact (zba X _)
 rintro _ Y ⟨f2,sY,hbY⟩;refine⟨Unit,fun _=>⟨[(0,.slice q l.length cap),(1,.slice p dom.length cd),(4,AtR L),(5,AtR (L+1)),(6,AtR (L+2)),(7,AtR (L+3))],[]⟩,fun _ Z=>Z.heap[L+3]?=some (.cells [i64 (0:Nat)].toArray 3 (0,0))/\Z.heap.size=L+4/\Bw Y Z,?_,?_⟩
 ·refine zan (X:=Y) (v:=i64 0) k3 rfl rfl rfl fun Z hbZ fZ sZ=>?_;rw [sY] at fZ sZ;exact⟨(),⟨.cons rfl (.cons rfl (.cons rfl (.cons rfl (.cons rfl (.cons (by rw [<- sY];rfl) .nil))))),rfl⟩,fZ,sZ,hbZ⟩
 rintro _ V ⟨f3,sV,hbV⟩;have hXV:Bw X V:=zst hbY hbV;have hwV:=zst hbX hXV;have f0:=zaa hXV f0;have f1:=zaa hXV f1;have f2:=zaa hbV f2;clear hbX hbY hbV hXV;obtain⟨xs,hxs⟩:=nm (zc1 l dom);rw [<- hxs] at hR hm ⊢;refine⟨Nat,fun D1=>⟨[(4,AtR L),(5,AtR (L+1)),(6,AtR (L+2))],[{ target := .collected D1,args := #[] }]⟩,fun D1 U=>U.heap[L+2]?=some (.cells (wrC (wrL xs)).toArray 193 (0,0))/\U.heap[D1]?=some (.deferred (some []))/\L+2<D1/\Below (L+2) V U,?_,?_⟩
 ·refine cmo zjI ?_;rintro e W ⟨rfl,fi,fd,sW,hbW⟩;have hwW:=zst hwV hbW;have hI:=zm5 (q:=q) (p:=p) (hl.below hwW) (hp.below hwW) fi fd (fun a ha=>by have:=hqb a ha;have:=hwW.size;omega) (fun a ha=>by have:=hpb a ha;have:=hwW.size;omega) h12 hx hdl;rw [<- hxs] at hI;obtain⟨J,hJ⟩:∃ J:List RunD->World->Prop,J=fun pre Y=>W.heap.size<=Y.heap.size/\Y.heap[L+2]?=some (.cells (wrC (wrL pre)).toArray 193 (0,0))/\Y.heap[L+3]?=some (.cells [i64 pre.length].toArray 3 (0,0))/\Below (L+2) W Y:=⟨_,rfl⟩;obtain⟨F0,hF0⟩:∃ F0:Nat->Prop,F0=fun k=>k=L+2\/k=L+3:=⟨_,rfl⟩;refine zft (sgOk _) rfl (lb := #[AtR V.heap.size,AtR (V.heap.size+1)]) rfl rfl hI (Nat.le_refl _) (fun k hk=>⟨?_,rfl⟩) (fun pre vs W ⟨R,b,_,h,_⟩=>by rw [h];rfl) (by decide)
   F0 (fun pre F Y=>F=F0/\J pre Y) (fun _ _ _ _=>False) (fun k hk=>?_)
   (joG (F:=F0) (J:=J) (fun k h=>by rw [hF0] at h;omega) (fun s A h=>by rw [hJ] at h;exact h.1) (fun pre A B h hb=>by
    rw [hJ] at h ⊢;obtain⟨h1,h2,h3,h4⟩:=h;exact⟨Nat.le_trans h1 hb.size,zcb hb (by omega) h2,zcb hb (by omega) h3,h4.trans (hb.mono (by omega))⟩))
   (fun ex=>⟨fun _ _ _ _ h=>h.elim,fun _ _ _ _ h=>h.elim⟩) ⟨rfl,by rw [hJ];exact⟨Nat.le_refl _,zaa hbW f2,zaa hbW f3,Below.refl _ _⟩⟩ ?_ ?_ ?_
  ·rcases hk with ((rfl | rfl) | ⟨a,ha,rfl⟩ | ⟨a,ha,rfl⟩) | h
   ·omega
   ·omega
   ·have:=hqb a ha;have:=hwW.size;omega
   ·have:=hpb a ha;have:=hwW.size;omega
   ·exact h.elim
  ·rw [hF0];rcases hk with (rfl | rfl) | ⟨a,ha,rfl⟩ | ⟨a,ha,rfl⟩
   ·omega
   ·omega
   ·have:=hqb a ha;omega
   ·have:=hpb a ha;omega
  ·rintro yl pre x vs F Y hyl hpre hJ0 ⟨R,b,hlast,rfl,fR⟩ hfy ⟨lo,hlo⟩;have hxR:x=R:=by simpa using hlast
   subst hxR;refine⟨rfl,F,KeepsG.refl _ _,hJ0,?_⟩;rintro o Y2 hY2 ⟨rfl,hJ2⟩;rw [hJ] at hJ2;obtain⟨h1,h2,h3,h4⟩:=hJ2;have hbl:b≠yl:=fun e=>by
    rw [e] at fR;rw [fR] at hlo
    cases hlo
   have fR2:RunH Y2 b x:=by rw [hY2];exact (zag hbl).trans fR
   have r1:=hR x (hpre.subset (by simp));have hpl:pre.length<xs.length:=by
    obtain⟨t,ht⟩:=hpre;rw [<- ht];simp only [lap,List.length_cons];omega
   refine⟨_,zac (zab h3) (i:=0) rfl,?_⟩;refine brN (decide_eq_false (by omega)) ?_;refine⟨_,zac (zab h3) (i:=0) rfl,?_⟩;refine⟨((pre.length+1:Nat):Int),(zak (by omega)).trans (by omega),?_⟩;refine zas k3 h3 (o:=0) (v:=i64 (pre.length+1:Nat)) rfl rfl (by show 0<1;decide) rfl fun Z fZ gZ sZ=>?_;have fRZ:RunH Z b x:=(gZ.block b (hlt fR2) (fun e=>by
    have e:b=L+3:=(by simpa using e);rw [e] at fR2;rw [fR2] at h3;simp at h3)).trans fR2
   have f2Z:=(gZ.block (L+2) (hlt h2) (by simp)).trans h2;have kZ:KeepsG F F Y2 Z:=KeepsG.grown gZ (by rw [hF0];exact .inr rfl);have bZ:Below (L+2) W Z:=h4.trans (zap gZ (by omega) (by omega));refine DrawE.ord [] [0,1,2,3,4,5,6,7,8,9] (by kernel_rfl) ?_;have hdZ:Bw Z Z.drew:=(Below.refl _ _).drew;refine⟨_,zac (zab (hdr fRZ)) (i:=18) (zdx x),?_⟩;refine⟨x.many,rfl,r1,?_⟩;have ecut:zbw (some ⟨b,0+19,none⟩) 24 0 7=some ⟨b,19,none⟩:=by rw [zd1,Nat.zero_add]
   refine⟨Nat,fun i=>⟨[(6,AtR (L+2)),(7,AtR (L+3)),(29,.slice (some ⟨b,19,none⟩) (x.many-0) (24-0)),(30,i64 (x.many:Nat)),(31,i64 (i:Nat))],[]⟩,
    fun i T=>i<=x.many/\T.heap[L+2]?=some (.cells (wrC fun v=>wrL pre v||wrE x i v).toArray 193 (0,0))/\RunH T b x/\T.heap[L+3]?=some (.cells [i64 (pre.length+1:Nat)].toArray 3 (0,0))/\KeepsG F F Y2 T/\Below (L+2) W T,fun i=>x.many-i,0,
    ⟨.cons rfl (.cons rfl (.cons (by rw [<- ecut];rfl) (.cons rfl (.cons rfl .nil)))),rfl⟩,⟨Nat.zero_le _,?_,hdr fRZ,hdr fZ,kZ.trans (KeepsG.below hdZ fun k h => .inl h),bZ.drew⟩,?_⟩
   ·have e:(fun v=>wrL pre v||wrE x 0 v)=wrL pre:=by
     funext v;show (wrL pre v||false)=_;rw [Bool.or_false]
    rw [e];exact f2Z
   rintro i T ⟨hi,t2,tR,t3,kT,bT⟩;have hTs:=kT.size;refine biE (fun hc=>?_) fun hc=>?_
   ·have hc:(i:Int)<(x.many:Int):=dT hc;have him:i<x.many:=(by omega);refine⟨i,rfl,him,?_⟩;have hev:zaw T ⟨b,19+i*7,none⟩ (evE.enc (x.ev i)):=by
     have:=zaD (n:=i*7) (m:=7) (zma tR);rw [zph x.ev (show i<24 by omega)] at this;exact this
    refine⟨evE.enc (x.ev i),rfl,hev,hlt tR,?_⟩;refine zan (X:=T) (v := .agg (evE.enc (x.ev i)).toArray) k54 rfl rfl rfl fun T2 hb2 fT2 sT2=>?_;have k2:KeepsG F F Y2 T2:=kT.trans (KeepsG.below hb2 fun k h => .inl h);have b2:Below (L+2) W T2:=bT.trans (hb2.mono (by omega));have n1:=znN x i;refine⟨_,zac (zab fT2) (i:=1) rfl,?_⟩;have u2:=zaa hb2 t2;have uR:=zaa hb2 tR;have u3:=zaa hb2 t3;refine biE (fun hk=>?_) fun hk=>?_
    ·have hk:(x.ev i).k=2:=zbi.1 (dT hk);refine⟨_,zac (zab fT2) (i:=3) rfl,?_⟩;refine⟨((x.ev i).v).toNat,rfl,((x.ev i).v).toNat_lt,?_⟩;refine zas k4 u2 (o:=0+((x.ev i).v).toNat*1) (v := .bool true) rfl rfl (by rw [zlL];have:=((x.ev i).v).toNat_lt;omega) rfl fun T3 fT3 gT3 sT3=>?_;rw [Nat.zero_add,Nat.mul_one,zps] at fT3;have k3:KeepsG F F Y2 T3:=k2.trans (KeepsG.grown gT3 (by rw [hF0];exact .inl rfl));have hT2s:=k2.size;refine nxI (by omega) ?_;refine⟨i+1,(cvE rfl rfl),⟨him,?_,(gT3.block b (hlt uR) (fun e=>by
      have e:b=L+2:=(by simpa using e);rw [e] at uR;rw [uR] at u2;simp at u2)).trans uR,(gT3.block (L+3) (hlt u3) (by simp)).trans u3,k3,b2.trans (zap gT3 (by omega) (Nat.le_refl _))⟩,zdc (by omega)⟩
     have e:(fun v=>wrL pre v||wrE x (i+1) v)=fun v=>(wrL pre v||wrE x i v)||decide ((x.ev i).v=v):=by
      funext v;rw [n1,decide_eq_true hk,Bool.true_and,Bool.or_assoc]
     rw [e];exact fT3
    ·have hk:¬ (x.ev i).k=2:=fun e=>(dF hk) (by rw [e];rfl);refine nxI (by omega) ?_;refine⟨i+1,(cvE rfl rfl),⟨him,?_,uR,u3,k2,b2⟩,zdc (by omega)⟩;have e:(fun v=>wrL pre v||wrE x (i+1) v)=fun v=>(wrL pre v||wrE x i v):=by
      funext v;rw [n1,decide_eq_false hk,Bool.false_and,Bool.or_false]
     rw [e];exact u2
   ·have hc:¬ (i:Int)<(x.many:Int):=dF hc;obtain rfl:i=x.many:=(by omega);refine⟨F,⟨rfl,?_⟩,kT⟩;rw [hJ];refine⟨by omega,?_,by rw [lap];exact t3,bT⟩;have e:wrL (pre++[x])=fun v=>wrL pre v||wrE x x.many v:=by
     funext v;exact znM pre x v
    rw [e];exact t2
  ·rintro D1 F Y hD hfD ⟨rfl,hj⟩ hdef;rw [hJ] at hj;obtain⟨h1,h2,h3,h4⟩:=hj;exact⟨D1,(cvE rfl rfl),h2,hdef,by omega,(hbW.mono (by omega)).trans h4⟩
  ·rintro D ex pre F Y hD hfD hpre h;exact h.elim
 clear f2 f3;rintro D1 U ⟨f2,fD1,hLD,bU⟩;have f0:U.heap[L]?=some (.cells #[.slice none 0 0] 65 (0,0)):=(bU.block L (by omega)).trans f0;have f1:U.heap[L+1]?=some (.cells #[.bool false] 4 (0,0)):=(bU.block (L+1) (by omega)).trans f1;have hwU:Bw w U:=hwV.trans (bU.mono (by omega));have sU:=hlt f2;have sD:=hlt fD1;clear bU hwV;refine⟨List UInt8×Option Addr×Nat,fun s=>⟨[(4,AtR L),(5,AtR (L+1)),(11,.slice s.2.1 s.1.length s.2.2)],[{ target := .collected D1,args := #[] }]⟩,fun s Z=>s.1=zcj xs/\OwnS zaR 5 U.heap.size Z s.2.1 s.2.2 s.1/\Bw U Z,?_,?_⟩
 ·refine⟨wrC (wrL xs),zlL _,zab f2,hlt f2,?_⟩;refine⟨Nat×Option Addr×Nat,fun s=>⟨[(4,AtR L),(5,AtR (L+1)),(11,.slice s.2.1 ((zaU.take s.1).filter (wrL xs)).length s.2.2),(42,.agg (wrC (wrL xs)).toArray),(43,i64 (s.1:Nat))],[{ target := .collected D1,args := #[] }]⟩,
   fun s Z=>s.1<=256/\OwnS zaR 5 U.heap.size Z s.2.1 s.2.2 ((zaU.take s.1).filter (wrL xs))/\Bw U Z,fun s=>256-s.1,(0,none,0),
   (cvE rfl rfl),⟨Nat.zero_le _,OwnS.nil,Below.refl _ _⟩,?_⟩
  rintro⟨k,r,c⟩ Z ⟨hk,ho,hbZ⟩;dsimp only at hk ho ⊢;have hZs:=hbZ.size;refine biE (fun hc=>?_) fun hc=>?_
  ·have hc:(k:Int)<256:=dT hc;have hk2:k<256:=by omega
   have tk:zaU.take (k+1)=zaU.take k++[UInt8.ofNat k]:=by
    obtain⟨hlb,hbk⟩:=zoI hk2;rw [tsg hlb,hbk]
   have fl:(zaU.take (k+1)).filter (wrL xs)=(zaU.take k).filter (wrL xs)++(if wrL xs (UInt8.ofNat k)=true then [UInt8.ofNat k] else []):=by
    rw [tk,List.filter_append,zlo]
   have hfl:((zaU.take k).filter (wrL xs)).length<=256:=by
    have h1:=List.length_filter_le (wrL xs) (zaU.take k);rw [List.length_take] at h1;omega
   refine⟨k,rfl,hk2,?_⟩;refine zeO (by rw [Nat.mul_one];exact zlM _ hk2) ?_;refine biE (fun hv=>?_) fun hv=>?_
   ·rw [if_pos hv] at fl;refine⟨_,w8N k,?_⟩;refine⟨⟨by decide,by decide,rfl⟩,zaR.enc (UInt8.ofNat k),rfl,?_⟩;have hba:Bw Z (Z.alloc (.cells (zaR.enc (UInt8.ofNat k)).toArray 5)):=zba _ _;refine zbH (E:=zaR) (T:=5) (B:=U.heap.size) (l:=(zaU.take k).filter (wrL xs)) (news:=[UInt8.ofNat k]) (cap:=c) (m:=1) Tryz.underlying65 k5 rfl rfl rfl (ho.below hba) rfl (zbg zaR (UInt8.ofNat k)) (by have:=hba.size;omega) (by omega) (by show (((zaU.take k).filter (wrL xs)).length+1)*1<=_;omega) ?_;intro p2 c2 T oT gT hbT hat;refine nxI (by omega) ?_;refine⟨(k+1,p2,c2),⟨.cons rfl (.cons rfl (.cons (by rw [fl];rfl) (.cons rfl (.cons rfl .nil)))),rfl⟩,⟨hk2,by show OwnS zaR _ _ _ _ _ ((zaU.take (k+1)).filter (wrL xs));rw [fl];exact oT,(hbZ.trans (hba.mono hZs)).trans hbT⟩,zdc (by omega)⟩
   ·have hv:wrL xs (UInt8.ofNat k)=false:=hv;rw [hv,if_neg Bool.false_ne_true,List.append_nil] at fl;refine nxI (by omega) ?_;exact⟨(k+1,r,c),⟨.cons rfl (.cons rfl (.cons (by rw [fl];rfl) (.cons rfl (.cons rfl .nil)))),rfl⟩,⟨hk2,by show OwnS zaR _ _ _ _ _ ((zaU.take (k+1)).filter (wrL xs));rw [fl];exact ho,hbZ⟩,zdc (by omega)⟩
  ·have hc:¬ (k:Int)<256:=dF hc;obtain rfl:k=256:=by omega
   have e:(zaU.take 256).filter (wrL xs)=zcj xs:=by
    rw [zkT,List.take_of_length_le (by unfold zaU;rw [List.length_map,List.length_range];exact Nat.le_refl _)]
   rw [e] at ho;exact⟨(zcj xs,r,c),⟨.cons rfl (.cons rfl (.cons (by rw [e];rfl) .nil)),rfl⟩,rfl,ho,hbZ⟩
 rintro⟨ys,r,c⟩ Z ⟨rfl,ho,hbZ⟩;dsimp only at ho ⊢;have hZs:=hbZ.size;have g0:=zaa hbZ f0;have g1:=zaa hbZ f1;have gD:=zaa hbZ fD1;refine zas k65 g0 (o:=0) (v := .slice r (zcj xs).length c) rfl rfl (by show 0<1;decide) rfl fun Z1 fZ1 gZ1 sZ1=>?_;have g1':=(gZ1.block (L+1) (hlt g1) (by simp)).trans g1;refine zas k4 g1' (o:=0) (v := .bool true) rfl rfl (by show 0<1;decide) rfl fun Z2 fZ2 gZ2 sZ2=>?_;have k2:∀ k,k<Z.heap.size->k≠L->k≠L+1->Z2.heap[k]?=Z.heap[k]?:=fun k hk n1 n2=>(gZ2.block k (by rw [sZ1];exact hk) (by simpa using n2)).trans (gZ1.block k hk (by simpa using n1));have fZ1':=(gZ2.block L (hlt fZ1) (by simp)).trans fZ1;refine⟨_,rfl,(k2 D1 (hlt gD) (by omega) (by omega)).trans gD,?_⟩;refine⟨.slice r (zcj xs).length c,?_,.bool true,?_,⟨r,c,rfl,?_⟩,?_⟩
 ·exact zac (zab ((zag (by omega)).trans fZ1')) (i:=0) rfl
 ·exact zac (zab ((zag (by omega)).trans fZ2)) (i:=0) rfl
 ·refine OwnS.lower (ho.same fun a ha=>?_) hwU.size;have h:=zc7 ho ha;exact (zag (by omega)).trans (k2 _ h.2.1 (by omega) (by omega))
 ·have hwZ:=zst hwU hbZ;exact zbG ((hwZ.trans (zap gZ1 hwZ.size (by omega))).trans (zap gZ2 (by rw [sZ1];exact hwZ.size) (by omega))) (by omega) _
end
theorem zfg {a b:Nat}:decide ((a:Int)<(b:Int))=decide (a<b):=by rw [decide_eq_decide];omega
def zce (c:Cnd):Bool:=decide (c.thread=0)&&(decide (c.n=0)&&decide (c.val=0))
theorem zct {threads locs d:Nat} (c:Cnd):zc2 threads locs (d+1) c=(if c.kind=0 then zce c&&decide (c.kids.length=0) else
  if c.kind=1 then decide (c.thread.toNat<threads)&&(decide (c.n.toNat<8)&&decide (c.kids.length=0)) else
  if c.kind=2 then decide (c.n.toNat<locs)&&(decide (c.thread=0)&&decide (c.kids.length=0)) else
  if c.kind=3\/c.kind=4 then zce c&&(decide (2<=c.kids.length)&&c.kids.all (zc2 threads locs d)) else
  if c.kind=5 then zce c&&(decide (c.kids.length=1)&&c.kids.all (zc2 threads locs d)) else false):=by
 obtain⟨k,t,n,v,kids⟩:=c;rfl
def zsn (c:Cnd):Prop:=(c.kind=3\/c.kind=4)/\zce c=true/\2<=c.kids.length\/c.kind=5/\zce c=true/\c.kids.length=1
theorem zlt {threads locs d:Nat} {c:Cnd} (h:zsn c):zc2 threads locs (d+1) c=c.kids.all (zc2 threads locs d):=by
 rw [zct];rcases h with ⟨h1,h2,h3⟩ | ⟨h1,h2,h3⟩
 ·rw [if_neg (by rcases h1 with h | h <;> rw [h] <;> decide),if_neg (by rcases h1 with h | h <;> rw [h] <;> decide),if_neg (by rcases h1 with h | h <;> rw [h] <;> decide),if_pos h1,h2,decide_eq_true h3];rfl
 ·rw [if_neg (by rw [h1];decide),if_neg (by rw [h1];decide),if_neg (by rw [h1];decide),if_neg (by rw [h1];decide),if_pos h1,h2,decide_eq_true h3];rfl
theorem zjM {B threads locs:Nat} {w:World} (hB:B<=w.heap.size):∀ (d:Nat) (c:Cnd) (b o:Nat) (p:Option Addr) (cap:Nat),d<=1000->b<B->zaw w ⟨b,o,none⟩ (zc8 c p cap)->KidsV B w p c.kids ->
  Calls Tryz.prog 176 #[.pointer (some ⟨b,o,none⟩),i64 threads,i64 locs,i64 d] w fun e w'=>e = .returned (.bool (zc2 threads locs d c))/\w=w':=by
 intro d
 induction d with
 | zero =>
  intro c b o p cap _ hb hc hk;refine cofE 141 [.pointer (some ⟨b,o,none⟩),i64 threads,i64 locs,i64 0] Tryz.func176 ?_;refine brT ?_;exact⟨rfl,rfl⟩
 | succ d ih =>
  intro c b o p cap hd hb hc hk;refine cofM 141 [.pointer (some ⟨b,o,none⟩),i64 threads,i64 locs,i64 (d+1:Nat)] (.s .p (.s .p (.c .p (.c .p .p)))) Tryz.func176 ?_;have hbl:b<w.heap.size:=nL hb hB;refine biE (fun h=>?_) fun h=>?_
  ·have h:((d+1:Nat):Int)=0:=dT h;omega
  clear h;refine⟨Unit,fun _=>⟨[(0,.pointer (some ⟨b,o,none⟩)),(1,i64 threads),(2,i64 locs),(3,i64 (d+1:Nat)),(9,.bool (zce c))],[]⟩,fun _ X=>w=X,?_,?_⟩
  ·have fin:∀ {v:Bool},v=zce c->some (Value.bool v)=some (.bool (zce c)):=fun h=>by rw [h]
   refine⟨_,zac hc (i:=1) rfl,?_⟩;refine biE (fun h1=>?_) fun h1=>?_
   ·have h1:decide (c.thread=0)=true:=(u8d c.thread 0).symm.trans h1;refine⟨_,zac hc (i:=2) rfl,?_⟩;refine biE (fun h2=>?_) fun h2=>?_
    ·have h2:decide (c.n=0)=true:=(u8d c.n 0).symm.trans h2;refine⟨_,zac hc (i:=3) rfl,?_⟩;exact⟨(),⟨.cons rfl (.cons rfl (.cons rfl (.cons rfl (.cons (fin (by unfold zce;rw [h1,h2];exact u8d c.val 0)) .nil)))),rfl⟩,rfl⟩
    ·have h2:decide (c.n=0)=false:=(u8d c.n 0).symm.trans h2;exact⟨(),⟨.cons rfl (.cons rfl (.cons rfl (.cons rfl (.cons (fin (by unfold zce;rw [h1,h2];rfl)) .nil)))),rfl⟩,rfl⟩
   ·have h1:decide (c.thread=0)=false:=(u8d c.thread 0).symm.trans h1;refine brF ?_;exact⟨(),⟨.cons rfl (.cons rfl (.cons rfl (.cons rfl (.cons (fin (by unfold zce;rw [h1];rfl)) .nil)))),rfl⟩,rfl⟩
  rintro _ _ rfl;refine⟨Unit,fun _=>⟨[(0,.pointer (some ⟨b,o,none⟩)),(1,i64 threads),(2,i64 locs),(3,i64 (d+1:Nat))],[]⟩,fun _ X=>zsn c/\w=X,?_,?_⟩
  ·have hkn:c.kids.length<=140737488351232:=by have:=hk.inv.1;omega
   refine⟨_,zac hc (i:=0) rfl,?_⟩;refine biE (fun h0=>?_) fun h0=>?_
   ·have h0:c.kind=0:=dT ((u8d c.kind 0).symm.trans h0);have e:zc2 threads locs (d+1) c=(zce c&&decide (c.kids.length=0)):=(by rw [zct,if_pos h0]);rw [e];refine biE (fun h=>?_) fun h=>?_
    ·have h:zce c=true:=h;refine⟨_,zac hc (i:=4) rfl,?_⟩;exact⟨rb (by rw [h,Bool.true_and];exact zdV),rfl⟩
    ·have h:zce c=false:=h;exact⟨rb (by rw [h];rfl),rfl⟩
   have h0:¬ c.kind=0:=dF ((u8d c.kind 0).symm.trans h0);refine biE (fun h1=>?_) fun h1=>?_
   ·have h1:c.kind=1:=dT ((u8d c.kind 1).symm.trans h1);have e:zc2 threads locs (d+1) c=(decide (c.thread.toNat<threads)&&(decide (c.n.toNat<8)&&decide (c.kids.length=0))):=(by rw [zct,if_neg h0,if_pos h1]);rw [e];refine⟨_,zac hc (i:=1) rfl,?_⟩;refine⟨_,zaP _,?_⟩;refine biE (fun h=>?_) fun h=>?_
    ·have h:decide (c.thread.toNat<threads)=true:=zfg.symm.trans h;refine⟨_,zac hc (i:=2) rfl,?_⟩;refine biE (fun h2=>?_) fun h2=>?_
     ·have h2:decide (c.n.toNat<8)=true:=(zfg (b:=8)).symm.trans h2;refine⟨_,zac hc (i:=4) rfl,?_⟩;exact⟨rb (by rw [h,h2];exact zdV),rfl⟩
     ·have h2:decide (c.n.toNat<8)=false:=(zfg (b:=8)).symm.trans h2;exact⟨rb (by rw [h,h2];rfl),rfl⟩
    ·have h:decide (c.thread.toNat<threads)=false:=zfg.symm.trans h;refine brF ?_;exact⟨rb (by rw [h];rfl),rfl⟩
   have h1:¬ c.kind=1:=dF ((u8d c.kind 1).symm.trans h1);refine biE (fun h2=>?_) fun h2=>?_
   ·have h2:c.kind=2:=dT ((u8d c.kind 2).symm.trans h2);have e:zc2 threads locs (d+1) c=(decide (c.n.toNat<locs)&&(decide (c.thread=0)&&decide (c.kids.length=0))):=(by rw [zct,if_neg h0,if_neg h1,if_pos h2]);rw [e];refine⟨_,zac hc (i:=2) rfl,?_⟩;refine⟨_,zaP _,?_⟩;refine biE (fun h=>?_) fun h=>?_
    ·have h:decide (c.n.toNat<locs)=true:=zfg.symm.trans h;refine⟨_,zac hc (i:=1) rfl,?_⟩;refine biE (fun h3=>?_) fun h3=>?_
     ·have h3:decide (c.thread=0)=true:=(u8d c.thread 0).symm.trans h3;refine⟨_,zac hc (i:=4) rfl,?_⟩;exact⟨rb (by rw [h,h3];exact zdV),rfl⟩
     ·have h3:decide (c.thread=0)=false:=(u8d c.thread 0).symm.trans h3;exact⟨rb (by rw [h,h3];rfl),rfl⟩
    ·have h:decide (c.n.toNat<locs)=false:=zfg.symm.trans h;refine brF ?_;exact⟨rb (by rw [h];rfl),rfl⟩
   have h2:¬ c.kind=2:=dF ((u8d c.kind 2).symm.trans h2);have g34:∀ (hk34:c.kind=3\/c.kind=4),zc2 threads locs (d+1) c=(zce c&&(decide (2<=c.kids.length)&&c.kids.all (zc2 threads locs d))):=fun hk34=>by
    rw [zct,if_neg h0,if_neg h1,if_neg h2,if_pos hk34]
   refine biE (fun h3=>?_) fun h3=>?_
   ·have h3':decide ((c.kind.toNat:Int)=3)=true:=h3;have h3:c.kind=3\/c.kind=4 := .inl (dT ((u8d c.kind 3).symm.trans h3));refine brE h3' ?_;refine biE (fun h=>?_) fun h=>?_
    ·have h:(!zce c)=true:=h;have h:zce c=false:=(by simpa using h);refine brT ?_;exact⟨rb (by rw [g34 h3,h];rfl),rfl⟩
    ·have h:(!zce c)=false:=h;have h:zce c=true:=(by simpa using h);refine⟨_,zac hc (i:=4) rfl,?_⟩;refine biE (fun h4=>?_) fun h4=>?_
     ·have h4:(c.kids.length:Int)<2:=dT h4;exact⟨rb (by rw [g34 h3,decide_eq_false (by omega)];simp),rfl⟩
     ·have h4:¬ (c.kids.length:Int)<2:=dF h4;exact⟨(),(cvE rfl rfl),.inl ⟨h3,h,by omega⟩,rfl⟩
   have h3:¬ c.kind=3:=dF ((u8d c.kind 3).symm.trans h3);refine biE (fun h4=>?_) fun h4=>?_
   ·have h3:c.kind=3\/c.kind=4 := .inr (dT ((u8d c.kind 4).symm.trans h4));refine biE (fun h=>?_) fun h=>?_
    ·have h:(!zce c)=true:=h;have h:zce c=false:=(by simpa using h);refine brT ?_;exact⟨rb (by rw [g34 h3,h];rfl),rfl⟩
    ·have h:(!zce c)=false:=h;have h:zce c=true:=(by simpa using h);refine⟨_,zac hc (i:=4) rfl,?_⟩;refine biE (fun h4=>?_) fun h4=>?_
     ·have h4:(c.kids.length:Int)<2:=dT h4;exact⟨rb (by rw [g34 h3,decide_eq_false (by omega)];simp),rfl⟩
     ·have h4:¬ (c.kids.length:Int)<2:=dF h4;exact⟨(),(cvE rfl rfl),.inl ⟨h3,h,by omega⟩,rfl⟩
   have h4:¬ c.kind=4:=dF ((u8d c.kind 4).symm.trans h4);have h34:¬ (c.kind=3\/c.kind=4):=fun h=>h.elim h3 h4;refine biE (fun h5=>?_) fun h5=>?_
   ·have h5:c.kind=5:=dT ((u8d c.kind 5).symm.trans h5);have e:zc2 threads locs (d+1) c=(zce c&&(decide (c.kids.length=1)&&c.kids.all (zc2 threads locs d))):=(by rw [zct,if_neg h0,if_neg h1,if_neg h2,if_neg h34,if_pos h5]);refine biE (fun h=>?_) fun h=>?_
    ·have h:(!zce c)=true:=h;have h:zce c=false:=(by simpa using h);refine brT ?_;exact⟨rb (by rw [e,h];rfl),rfl⟩
    ·have h:(!zce c)=false:=h;have h:zce c=true:=(by simpa using h);refine⟨_,zac hc (i:=4) rfl,?_⟩;refine biE (fun h4=>?_) fun h4=>?_
     ·have h4:(!decide ((c.kids.length:Int)=1))=true:=h4;have h4:¬ (c.kids.length:Int)=1:=(by simpa using h4);exact⟨rb (by rw [e,decide_eq_false (by omega)];simp),rfl⟩
     ·have h4:(!decide ((c.kids.length:Int)=1))=false:=h4;have h4:(c.kids.length:Int)=1:=(by simpa using h4);exact⟨(),(cvE rfl rfl),.inr ⟨h5,h,by omega⟩,rfl⟩
   have h5:¬ c.kind=5:=dF ((u8d c.kind 5).symm.trans h5);exact⟨rb (by rw [zct,if_neg h0,if_neg h1,if_neg h2,if_neg h34,if_neg h5]),rfl⟩
  rintro _ _ ⟨ha,rfl⟩;rw [zlt ha];refine⟨_,zac hc (i:=4) rfl,?_⟩;obtain⟨hn,b1,o1,hp,hks⟩:=hk.inv;refine⟨Nat,fun k=>⟨[(0,.pointer (some ⟨b,o,none⟩)),(1,i64 threads),(2,i64 locs),(3,i64 (d+1:Nat)),(124,i64 c.kids.length),(125,i64 (k:Nat))],[]⟩,fun k X=>k<=c.kids.length/\(∀ x∈c.kids.take k,zc2 threads locs d x=true)/\w=X,fun k=>c.kids.length-k,0,
   (cvE rfl rfl),⟨Nat.zero_le _,by simp,rfl⟩,?_⟩
  rintro k _ ⟨hk,hall,rfl⟩;dsimp only at hk hall ⊢;refine biE (fun hc2=>?_) fun hc2=>?_
  ·have hc2:(k:Int)<(c.kids.length:Int):=dT hc2;have hkl:k<c.kids.length:=by omega
   rcases hp with hp | rfl
   ·omega
   obtain⟨q,cq,hb1,hq,hkq⟩:=hks k hkl;refine⟨_,zac hc (i:=4) rfl,?_⟩;refine⟨k,rfl,hkl,?_⟩;refine⟨(d:Int),(zak (by omega)).trans (by omega),?_⟩;refine cmo (ih c.kids[k] b1 (o1+k*5) q cq (by omega) hb1 hq hkq) ?_;rintro e _ ⟨rfl,rfl⟩;refine biE (fun h=>?_) fun h=>?_
   ·have h:(!zc2 threads locs d c.kids[k])=true:=h;refine⟨rb ?_,rfl⟩;symm;rw [List.all_eq_false];exact⟨c.kids[k],gM _,by simpa using h⟩
   ·have h:(!zc2 threads locs d c.kids[k])=false:=h;refine⟨_,(zak (by omega)).trans rfl,?_⟩;refine⟨k+1,(cvE rfl rfl),⟨hkl,?_,rfl⟩,zdc (by omega)⟩;rw [tsg hkl];intro x hx;rcases List.mem_append.1 hx with hx | hx
    ·exact hall x hx
    ·simp only [List.mem_singleton] at hx;rw [hx];simpa using h
  ·have hc2:¬ (k:Int)<(c.kids.length:Int):=dF hc2;obtain rfl:k=c.kids.length:=by omega
   rw [List.take_length] at hall;exact⟨rb (List.all_eq_true.2 hall).symm,rfl⟩
theorem zsz {B threads locs cap:Nat} {p:Option Addr} {c:Cnd} {w:World} (hB:B<=w.heap.size) (hk:KidsV B w p c.kids) :
  CB 155 #[.agg (zc8 c p cap).toArray,i64 threads,i64 locs] w (.bool (zc2 threads locs 20 c)):=by
 refine cofE 10 [.agg (zc8 c p cap).toArray,i64 threads,i64 locs] Tryz.func155 ?_;have hb:Bw w (w.alloc (.cells (zc8 c p cap).toArray 69)):=zba w _;have hn:=hnew w (.cells (zc8 c p cap).toArray 69);refine cmo (zjM (B:=w.heap.size+1) (by rw [wz];omega) 20 c w.heap.size 0 p cap (by omega) (by omega) (zab hn) ((hk.kept (hb.mono hB)).wider (by omega))) ?_;rintro e _ ⟨rfl,rfl⟩;exact⟨rfl,hb⟩
theorem zjv {g:Nat} {p:Prg} {p1 p2 p3 p4:Option Addr} {c1 c2 c3 c4 B:Nat} {w:World} (hc:zaw w ⟨g,0,none⟩ (zcw p p1 c1 p2 c2 p3 c3 p4 c4)) (hg:g<w.heap.size) (h1:RowB namE B w p1 p.locs) (hB:B<=w.heap.size) (hcap:p.locs.length<=c1) (hl:PrgLen p) :
  CB 147 #[At0 g] w (.bool (zhB p)):=by
 refine cofM 56 [At0 g] (.s .p (.c .p .p)) Tryz.func147 ?_;have hbd:Bw w w.drew:=(Below.refl _ w).drew;have hcd:zaw w.drew ⟨g,0,none⟩ (zcw p p1 c1 p2 c2 p3 c3 p4 c4):=zae hbd hc;have h1d:SlR namE w.drew p1 p.locs:=(h1.below (hbd.mono hB)).slr (Nat.le_trans hB hbd.size);have hln:=hl.locs;refine⟨Unit,fun _=>⟨[(0,At0 g)],[]⟩,fun _ X=>(1<=p.locs.length/\p.locs.length<=6/\p.init.length=p.locs.length)/\X=w.drew,?_,?_⟩
 ·refine DrawE.ord [] [0,1,2,3,4,5,6,7,8,9,10,11,12,13,14,15,16,17,18,19,20,21,22,23,24,25,26] (by kernel_rfl) ?_;refine⟨_,zac hcd (i:=1) rfl,?_⟩;refine biE (fun ha=>?_) fun ha=>?_
  ·have ha:(p.locs.length:Int)<1:=dT ha;refine brT ?_;refine brT ?_;exact⟨rb (by unfold zhB;rw [decide_eq_false (by omega)];rfl),hbd⟩
  ·have ha:¬ (p.locs.length:Int)<1:=dF ha;refine⟨_,zac hcd (i:=1) rfl,?_⟩;refine biE (fun hd=>?_) fun hd=>?_
   ·have hd:(6:Int)<(p.locs.length:Int):=dT hd;refine brT ?_;exact⟨rb (by unfold zhB;rw [decide_eq_false (p:=p.locs.length<=6) (by omega)];simp),hbd⟩
   ·have hd:¬ (6:Int)<(p.locs.length:Int):=dF hd;refine⟨_,zac hcd (i:=2) rfl,?_⟩;refine⟨_,zac hcd (i:=1) rfl,?_⟩;refine biE (fun he=>?_) fun he=>?_
    ·have he:(!decide ((p.init.length:Int)=(p.locs.length:Int)))=true:=he;have he:¬ (p.init.length:Int)=(p.locs.length:Int):=(by simpa using he);exact⟨rb (by unfold zhB;rw [decide_eq_false (p:=p.init.length=p.locs.length) (by omega)];simp),hbd⟩
    ·have he:(!decide ((p.init.length:Int)=(p.locs.length:Int)))=false:=he;have he:(p.init.length:Int)=(p.locs.length:Int):=(by simpa using he);exact⟨(),(cvE rfl rfl),⟨by omega,by omega,by omega⟩,rfl⟩
 rintro _ _ ⟨⟨l1,l6,li⟩,rfl⟩;have hdef:zhB p=zgf [] p.locs:=by unfold zhB;rw [decide_eq_true l1,decide_eq_true l6,decide_eq_true li];rfl
 rw [hdef];refine⟨_,zac hcd (i:=1) rfl,?_⟩;refine⟨Nat,fun k=>⟨[(0,At0 g),(35,.slice p1 p.locs.length c1),(36,i64 p.locs.length),(37,i64 (k:Nat))],[]⟩,fun k X=>k<=p.locs.length/\zgf (p.locs.take k) (p.locs.drop k)=zgf [] p.locs/\X=w.drew,fun k=>p.locs.length-k,0,
  (cvE rfl rfl),⟨Nat.zero_le _,rfl,rfl⟩,?_⟩
 rintro k _ ⟨hk,hna,rfl⟩;dsimp only at hk hna ⊢;refine biE (fun hc2=>?_) fun hc2=>?_
 ·have hc2:(k:Int)<(p.locs.length:Int):=dT hc2;have hkl:k<p.locs.length:=by omega
  obtain⟨b,o,rfl,hb,hat⟩:=h1d.at hkl;have hbk:Bw w w.drew:=hbd;refine⟨k,rfl,hkl,?_⟩;refine⟨_,zac (hat k hkl) (i:=0) rfl,?_⟩;have hs:p.locs[k].length<=140737488351232:=hl.loc _ (gM _);have hstep:zgf [] p.locs=(zhw p.locs[k]&&(!((p.locs.take k).any fun q=>decide (q=p.locs[k]))&&zgf (p.locs.take (k+1)) (p.locs.drop (k+1)))):=by
   rw [<- hna,List.drop_eq_getElem_cons hkl,tsg hkl];rfl
  refine cmo (zsq p.locs[k] hs _) ?_;rintro e _ ⟨rfl,rfl⟩;refine biE (fun h=>?_) fun h=>?_
  ·have h:(!zhw p.locs[k])=true:=h;have h:zhw p.locs[k]=false:=by simpa using h
   refine brT ?_;exact⟨rb (by rw [hstep,h];rfl),hbd⟩
  ·have h:(!zhw p.locs[k])=false:=h;have h:zhw p.locs[k]=true:=by simpa using h
   refine⟨_,zac hcd (i:=1) rfl,?_⟩;refine⟨k,rfl,by omega,?_⟩;have hsub:SlR namE w.drew (zbw (some ⟨b,o,none⟩) c1 0 1) (p.locs.take k):=SlR.sub h1d (lo:=0) (hi:=k) (Nat.zero_le _) (by omega) hcap;have htl:(p.locs.take k).length=k:=by rw [List.length_take];omega
   have hcn:=zlD (zbw (some ⟨b,o,none⟩) c1 0 1) (c1-0) (p.locs.take k) p.locs[k] w.drew hsub (by omega);rw [htl] at hcn;refine cmo hcn ?_;rintro e _ ⟨rfl,rfl⟩;refine biE (fun h5=>?_) fun h5=>?_
   ·have h5:((p.locs.take k).any fun q=>decide (q=p.locs[k]))=true:=h5;exact⟨rb (by rw [hstep,h5];simp),hbd⟩
   ·have h5:((p.locs.take k).any fun q=>decide (q=p.locs[k]))=false:=h5;refine⟨_,(zak (by omega)).trans rfl,?_⟩;exact⟨k+1,(cvE rfl rfl),⟨hkl,by rw [hstep,h,h5];rfl,rfl⟩,zdc (by omega)⟩
 ·have hc2:¬ (k:Int)<(p.locs.length:Int):=dF hc2;obtain rfl:k=p.locs.length:=by omega
  rw [List.drop_length] at hna;exact⟨rb hna,hbd⟩
structure DmV (B:Nat) (X:World) (g bx:Nat) (p:Prg):Prop where
 hB:B<=X.heap.size
 hg:g<X.heap.size
 len:PrgLen p
 h:∃ p1 c1 p2 c2 p3 c3 p4 c4,zaw X ⟨g,0,none⟩ (zcw p p1 c1 p2 c2 p3 c3 p4 c4)/\RowB namE B X p1 p.locs/\RowB zaR B X p2 p.init/\ThrsV B X p3 p.threads/\KidsV B X p4 p.cond.kids/\p.locs.length<=c1
 b:X.heap[bx]?=some (.cells #[At0 g] 116 (0,0))
 G:GlobC X
theorem DmV.below {B:Nat} {X Y:World} {g bx:Nat} {p:Prg} (h:DmV B X g bx p) (hb:Bw X Y):DmV B Y g bx p:=by
 obtain⟨p1,c1,p2,c2,p3,c3,p4,c4,h0,h1,h2,h3,h4,h5⟩:=h.h;have hb':=hb.mono h.hB;exact⟨Nat.le_trans h.hB hb.size,nL h.hg hb.size,h.len,⟨p1,c1,p2,c2,p3,c3,p4,c4,zae hb h0,h1.below hb',h2.below hb',h3.below hb',h4.kept hb',h5⟩,zaa hb h.b,h.G.below hb⟩
def zmi (sel:Bool) (bx:Nat):Value:=match sel with
 | false => .func (.func 149) #[] #[]
 | true => .func (.func 151) #[] #[.pointer (some ⟨bx,0,none⟩)]
def zem (sel:Bool) (p:Prg) (l:List InsD):Bool:=match sel with
 | false=>decide (l.length<=12)
 | true=>zbX l p.locs.length
section
variable {B g bx:Nat} {p:Prg} {w:World}
theorem zpC (q:Option Addr) (cap:Nat) (l:List InsD):Calls Tryz.prog 149 #[.slice q l.length cap] w fun e w'=>e = .returned (.bool (decide (l.length<=12)))/\w=w':=by
 refine cofE 6 [.slice q l.length cap] Tryz.func149 ?_;refine⟨rb ?_,rfl⟩;rw [decide_eq_decide];show ((l.length:Int)<=12)↔_;omega
theorem znT (h:DmV B w g bx p) {q:Option Addr} {cap:Nat} {l:List InsD} (hl:SlR insE w q l) (hn:l.length<=140737488351232) :
  CB 151 #[.slice q l.length cap,At0 bx] w (.bool (zbX l p.locs.length)):=by
 refine cofE 11 [.slice q l.length cap,At0 bx] Tryz.func151 ?_;obtain⟨p1,c1,p2,c2,p3,c3,p4,c4,h0,h1,h2,h3,h4,h5⟩:=h.h;refine⟨_,zac (zab h.b) (i:=0) rfl,?_⟩;refine⟨_,zac h0 (i:=1) rfl,?_⟩;refine cmo (zkQ hl h.G hn) ?_;rintro e V ⟨rfl,hb⟩;exact⟨rfl,hb⟩
theorem zm1 (sel:Bool) (h:DmV B w g bx p):CB 143 #[zmi sel bx,At0 bx] w (.bool (p.threads.all (zem sel p))):=by
 refine cofE 20 [zmi sel bx,At0 bx] Tryz.func143 ?_;obtain⟨p1,c1,p2,c2,p3,c3,p4,c4,h0,h1,h2,h3,h4,h5⟩:=h.h;obtain⟨xs,hxs,hr,hx⟩:=h3;have hlen:p.threads.length=xs.length:=by rw [<- hxs,List.length_map]
 have hln:=h.len.threads;refine⟨_,zac (zab h.b) (i:=0) rfl,?_⟩;refine⟨_,zac h0 (i:=3) rfl,?_⟩;refine⟨Nat,fun k=>⟨[(0,zmi sel bx),(1,At0 bx),(9,.slice p3 p.threads.length c3),(10,i64 p.threads.length),(11,i64 (k:Nat))],[]⟩,fun k X=>k<=p.threads.length/\(∀ l∈p.threads.take k,zem sel p l=true)/\Bw w X,fun k=>p.threads.length-k,0,
  (cvE rfl rfl),⟨Nat.zero_le _,by simp,Below.refl _ _⟩,?_⟩
 rintro k X ⟨hk,hall,hbX⟩;dsimp only at hk hall ⊢;have hX:=h.below hbX;refine biE (fun hc=>?_) fun hc=>?_
 ·have hc:(k:Int)<(p.threads.length:Int):=dT hc;have hkl:k<p.threads.length:=by omega
  have hkx:k<xs.length:=by omega
  have e1:p.threads[k]=xs[k].1:=by simp [<- hxs]
  obtain⟨b,o,hp3,hat⟩:=hr.get;rcases hp3 with hp3 | rfl
  ·omega
  refine⟨k,rfl,hkl,?_⟩;obtain⟨hb1,ha1⟩:=hat k hkx;refine⟨_,zac (zaB (hbX.mono h.hB) hb1 ha1) (i:=0) rfl,?_⟩;have hrow:SlR insE X xs[k].2.1 xs[k].1:=((hx _ (gM hkx)).below (hbX.mono h.hB)).slr hX.hB;have hln1:xs[k].1.length<=140737488351232:=by rw [<- e1];exact h.len.thread _ (gM _)
  have hfin:zem sel p xs[k].1=false->p.threads.all (zem sel p)=false:=fun hf=>by
   rw [List.all_eq_false];exact⟨p.threads[k],gM _,by rw [e1,hf];simp⟩
  have hgo:zem sel p xs[k].1=true->∀ l∈p.threads.take (k+1),zem sel p l=true:=fun ht=>by
   rw [tsg hkl];intro x hx;rcases List.mem_append.1 hx with hx | hx
   ·exact hall x hx
   ·simp only [List.mem_singleton] at hx;rw [hx,e1];exact ht
  cases sel with
  | false =>
   refine cmo (zpC xs[k].2.1 xs[k].2.2 xs[k].1) ?_;rintro e _ ⟨rfl,rfl⟩;refine biE (fun hb=>?_) fun hb=>?_
   ·have hb:(!zem false p xs[k].1)=true:=hb;exact⟨rb (hfin (by simpa using hb)).symm,hbX⟩
   ·have hb:(!zem false p xs[k].1)=false:=hb;refine⟨_,(zak (by omega)).trans rfl,?_⟩;exact⟨k+1,(cvE rfl rfl),⟨hkl,hgo (by simpa using hb),hbX⟩,zdc (by omega)⟩
  | true =>
   refine cmo (znT hX (cap:=xs[k].2.2) hrow hln1) ?_;rintro e Y ⟨rfl,hbY⟩;refine biE (fun hb=>?_) fun hb=>?_
   ·have hb:(!zem true p xs[k].1)=true:=hb;exact⟨rb (hfin (by simpa using hb)).symm,(zst hbX hbY)⟩
   ·have hb:(!zem true p xs[k].1)=false:=hb;refine⟨_,(zak (by omega)).trans rfl,?_⟩;exact⟨k+1,(cvE rfl rfl),⟨hkl,hgo (by simpa using hb),(zst hbX hbY)⟩,zdc (by omega)⟩
 ·have hc:¬ (k:Int)<(p.threads.length:Int):=dF hc;obtain rfl:k=p.threads.length:=by omega
  rw [List.take_length] at hall;exact⟨rb (List.all_eq_true.2 hall).symm,hbX⟩
theorem zsd (h:DmV B w g bx p):CB 144 #[At0 bx] w (.bool (zfj p.name)):=by
 refine cofE 7 [At0 bx] Tryz.func144 ?_;obtain⟨p1,c1,p2,c2,p3,c3,p4,c4,h0,h1,h2,h3,h4,h5⟩:=h.h;refine⟨_,zac (zab h.b) (i:=0) rfl,?_⟩;refine⟨_,zac h0 (i:=0) rfl,?_⟩;refine cmo (zor p.name h.len.name w) ?_;rintro e V ⟨rfl,hb⟩;exact⟨rfl,hb⟩
theorem zsc (h:DmV B w g bx p):CB 146 #[At0 bx] w (.bool (zhB p)):=by
 refine cofE 4 [At0 bx] Tryz.func146 ?_;obtain⟨p1,c1,p2,c2,p3,c3,p4,c4,h0,h1,h2,h3,h4,h5⟩:=h.h;refine⟨_,zac (zab h.b) (i:=0) rfl,?_⟩;refine cmo (zjv h0 h.hg h1 h.hB h5 h.len) ?_;rintro e V ⟨rfl,hb⟩;exact⟨rfl,hb⟩
def evV (bx:Nat):Value := .func (.func 143) #[] #[At0 bx]
theorem zsb (h:DmV B w g bx p) {ev:Nat} (hev:w.heap[ev]?=some (.cells #[evV bx] 187 (0,0))):CB 148 #[At0 bx,At0 ev] w (.bool (decide (1<=p.threads.length)&&(decide (p.threads.length<=4)&&p.threads.all fun l=>decide (l.length<=12)))):=by
 refine cofE 21 [At0 bx,At0 ev] Tryz.func148 ?_;obtain⟨p1,c1,p2,c2,p3,c3,p4,c4,h0,h1,h2,h3,h4,h5⟩:=h.h;refine⟨_,zac (zab h.b) (i:=0) rfl,?_⟩;refine⟨_,zac h0 (i:=3) rfl,?_⟩;refine biE (fun ha=>?_) fun ha=>?_
 ·have ha:(1:Int)<=(p.threads.length:Int):=dT ha;refine⟨_,zac (zab h.b) (i:=0) rfl,?_⟩;refine⟨_,zac h0 (i:=3) rfl,?_⟩;refine biE (fun hb=>?_) fun hb=>?_
  ·have hb:(p.threads.length:Int)<=4:=dT hb;refine⟨_,zac (zab hev) (i:=0) rfl,?_⟩;refine cmo (zm1 false h) ?_;rintro e V ⟨rfl,hbV⟩;refine⟨rb ?_,hbV⟩;rw [decide_eq_true (by omega),decide_eq_true (by omega),Bool.true_and,Bool.true_and];rfl
  ·have hb:¬ (p.threads.length:Int)<=4:=dF hb;exact⟨rb (by rw [decide_eq_false (p:=p.threads.length<=4) (by omega)];simp),Below.refl _ _⟩
 ·have ha:¬ (1:Int)<=(p.threads.length:Int):=dF ha;refine brF ?_;exact⟨rb (by rw [decide_eq_false (p:=1<=p.threads.length) (by omega)];rfl),Below.refl _ _⟩
theorem zsa (h:DmV B w g bx p) {ev:Nat} (hev:w.heap[ev]?=some (.cells #[evV bx] 187 (0,0))):CB 150 #[At0 ev,At0 bx] w (.bool (p.threads.all fun l=>zbX l p.locs.length)):=by
 refine cofE 6 [At0 ev,At0 bx] Tryz.func150 ?_;refine⟨_,zac (zab hev) (i:=0) rfl,?_⟩;refine cmo (zm1 true h) ?_;rintro e V ⟨rfl,hbV⟩;exact⟨rfl,hbV⟩
theorem zr9 (h:DmV B w g bx p):CB 153 #[At0 bx] w (.bool (decide (p.ask=1)||(decide (p.ask=2)||decide (p.ask=3)))):=by
 refine cofE 21 [At0 bx] Tryz.func153 ?_;obtain⟨p1,c1,p2,c2,p3,c3,p4,c4,h0,h1,h2,h3,h4,h5⟩:=h.h;refine⟨_,zac (zab h.b) (i:=0) rfl,?_⟩;refine⟨_,zac h0 (i:=4) rfl,?_⟩;refine biE (fun ha=>?_) fun ha=>?_
 ·have ha:decide (p.ask=1)=true:=(u8d p.ask 1).symm.trans ha;refine brT ?_;exact⟨rb (by rw [ha];rfl),Below.refl _ _⟩
 ·have ha:decide (p.ask=1)=false:=(u8d p.ask 1).symm.trans ha;refine⟨_,zac (zab h.b) (i:=0) rfl,?_⟩;refine⟨_,zac h0 (i:=4) rfl,?_⟩;refine biE (fun hb=>?_) fun hb=>?_
  ·have hb:decide (p.ask=2)=true:=(u8d p.ask 2).symm.trans hb;exact⟨rb (by rw [ha,hb];rfl),Below.refl _ _⟩
  ·have hb:decide (p.ask=2)=false:=(u8d p.ask 2).symm.trans hb;refine⟨_,zac (zab h.b) (i:=0) rfl,?_⟩;refine⟨_,zac h0 (i:=4) rfl,?_⟩;exact⟨rb (by rw [ha,hb];exact u8d p.ask 3),Below.refl _ _⟩
theorem zr8 (h:DmV B w g bx p):CB 154 #[At0 bx] w (.bool (zc2 p.threads.length p.locs.length 20 p.cond)):=by
 refine cofE 17 [At0 bx] Tryz.func154 ?_;have hbd:Bw w w.drew:=(Below.refl _ w).drew;have hd:=h.below hbd;obtain⟨p1,c1,p2,c2,p3,c3,p4,c4,h0,h1,h2,h3,h4,h5⟩:=hd.h;refine DrawE.ord [] [0,1,2,3,4,5,6,7,8,9,10,11,12,13,14,15] (by kernel_rfl) ?_;refine⟨_,zac (zab hd.b) (i:=0) rfl,?_⟩;refine⟨zc8 p.cond p4 c4,rfl,zaD (n:=5) (m:=5) h0,hd.hg,?_⟩;refine⟨_,zac (zab hd.b) (i:=0) rfl,?_⟩;refine⟨_,zac h0 (i:=3) rfl,?_⟩;refine⟨_,zac (zab hd.b) (i:=0) rfl,?_⟩;refine⟨_,zac h0 (i:=1) rfl,?_⟩;refine cmo (zsz hd.hB h4) ?_;rintro e V ⟨rfl,hbV⟩;exact⟨hbV,rfl,hbd.trans hbV⟩
def dmFs (bx ev:Nat):List Value:=[i64 70,.func (.func 144) #[] #[At0 bx],i64 71,.func (.func 146) #[] #[At0 bx],
 i64 72,.func (.func 148) #[] #[At0 bx,At0 ev],i64 73,.func (.func 150) #[] #[At0 ev,At0 bx],
 i64 75,.func (.func 153) #[] #[At0 bx],i64 74,.func (.func 154) #[] #[At0 bx]]
theorem znc {g:Nat} {w:World}:Calls Tryz.prog 110 #[At0 g] w fun e w'=>e = .returned (.slice (some ⟨w.heap.size+2,0,none⟩) 6 6) /\
  w'.heap[w.heap.size]?=some (.cells #[At0 g] 116 (0,0))/\w'.heap[w.heap.size+1]?=some (.cells #[evV w.heap.size] 187 (0,0)) /\
  w'.heap[w.heap.size+2]?=some (.cells (dmFs w.heap.size (w.heap.size+1)).toArray 155 (0,0))/\w'.heap.size=w.heap.size+3/\Bw w w':=by
 refine cofE 18 [At0 g] Tryz.func110 ?_;have hs:=wz w (.cells (At0 g).cells 116);refine zan (X:=w.alloc (.cells (At0 g).cells 116)) (v:=evV w.heap.size) k187 rfl rfl rfl fun V hbV fV sV=>?_;generalize hev:(w.alloc (.cells (At0 g).cells 116)).heap.size=ev at *;refine⟨[i64 70,.func (.func 144) #[] #[.pointer (some ⟨w.heap.size,0,none⟩)]],rfl,?_⟩;refine⟨[i64 71,.func (.func 146) #[] #[.pointer (some ⟨w.heap.size,0,none⟩)]],rfl,?_⟩;refine⟨[i64 72,.func (.func 148) #[] #[.pointer (some ⟨w.heap.size,0,none⟩),At0 ev]],rfl,?_⟩;refine⟨[i64 73,.func (.func 150) #[] #[At0 ev,.pointer (some ⟨w.heap.size,0,none⟩)]],rfl,?_⟩;refine⟨[i64 75,.func (.func 153) #[] #[.pointer (some ⟨w.heap.size,0,none⟩)]],rfl,?_⟩;refine⟨[i64 74,.func (.func 154) #[] #[.pointer (some ⟨w.heap.size,0,none⟩)]],rfl,?_⟩;refine⟨⟨by decide,by decide,rfl⟩,dmFs w.heap.size ev,rfl,?_⟩;subst hs;refine⟨?_,?_,?_,?_,?_,?_⟩
 ·rw [sV];rfl
 ·exact hold _ (zaa (show Below _ _ _ from hev▸hbV) (hnew w _))
 ·exact hold _ fV
 ·rw [show w.heap.size+2=V.heap.size from sV.symm];exact hnew _ _
 ·rw [wz,sV]
 ·exact (((zba w _)).trans (hbV.mono (by omega))).alloc (by omega) _
end
def okL (p:Prg):List Bool:=[zfj p.name,zhB p,decide (1<=p.threads.length)&&(decide (p.threads.length<=4)&&p.threads.all fun l=>decide (l.length<=12)),p.threads.all (fun l=>zbX l p.locs.length),
 decide (p.ask=1)||(decide (p.ask=2)||decide (p.ask=3)),zc2 p.threads.length p.locs.length 20 p.cond]
theorem zmB {p:Prg}:zjq p=(okL p).all id:=by
 unfold zjq okL;simp only [List.all_cons,List.all_nil,Bool.and_true,id]
theorem znF {B:Nat} {p:Prg} {vs:List Value} {w:World} (hB:B<=w.heap.size) (hp:PrgV B w vs p) (hG:GlobC w) :
  Calls Tryz.prog 80 #[.agg vs.toArray] w fun e w'=>∃ n:Int,e = .returned (i64 n)/\(n=0↔zjq p=true)/\Bw w w':=by
 obtain⟨hl,p1,c1,p2,c2,p3,c3,p4,c4,rfl,h1,h2,h3,h4,h5⟩:=hp;refine cofE 18 [.agg (zcw p p1 c1 p2 c2 p3 c3 p4 c4).toArray] Tryz.func80 ?_;obtain⟨L,hL⟩:=nm (w.heap.size);have hn:=hnew w (.cells (Value.agg (zcw p p1 c1 p2 c2 p3 c3 p4 c4).toArray).cells 71);have hs:=wz w (.cells (Value.agg (zcw p p1 c1 p2 c2 p3 c3 p4 c4).toArray).cells 71);have hb:Bw w (w.alloc (.cells (Value.agg (zcw p p1 c1 p2 c2 p3 c3 p4 c4).toArray).cells 71)):=zba w _;refine cmo znc ?_;rintro e V ⟨rfl,hbx,hev,hsl,hsz,hbV⟩;have hbw:Bw w V:=zst hb hbV;have p1':some (Value.slice (some ⟨(w.alloc (.cells (Value.agg (zcw p p1 c1 p2 c2 p3 c3 p4 c4).toArray).cells 71)).heap.size+2,0,none⟩) 6 6)=some (Value.slice (some ⟨L+3,0,none⟩) 6 6):=by rw [hs,hL]
 have hD:DmV B V L (L+1) p:=by
  have hbB:=hbw.mono hB;rw [hs,<- hL] at hbx;refine⟨Nat.le_trans hB hbw.size,by omega,hl,⟨p1,c1,p2,c2,p3,c3,p4,c4,zab (zaa hbV (hL▸hn)),h1.below hbB,h2.below hbB,h3.below hbB,h4.kept hbB,h5⟩,hbx,hG.below hbw⟩
 rw [hs,<- hL] at hev hsl;clear hn hs hb hbx hbV hsz;refine⟨Nat,fun j=>⟨[(5,.slice (some ⟨L+3,0,none⟩) 6 6),(6,i64 6),(7,i64 (j:Nat))],[]⟩,
  fun j X=>j<=6/\(∀ i,i<j->(okL p)[i]?=some true)/\DmV B X L (L+1) p/\X.heap[L+2]?=some (.cells #[evV (L+1)] 187 (0,0))/\X.heap[L+3]?=some (.cells (dmFs (L+1) (L+2)).toArray 155 (0,0))/\Bw w X,fun j=>6-j,0,
  ⟨.cons p1' (.cons rfl (.cons rfl .nil)),rfl⟩,⟨Nat.zero_le _,fun i hi=>by omega,hD,hev,hsl,hbw⟩,?_⟩
 clear hD hev hsl hbw p1';rintro j X ⟨hj,hpre,hD,hev,hsl,hbw⟩;dsimp only at hj hpre ⊢;refine biE (fun hc=>?_) fun hc=>?_
 ·have hc:(j:Int)<6:=dT hc;have hno:∀ {i:Nat},(okL p)[i]?=some false->zjq p=false:=fun h=>by rw [zmB];exact zpl h
  have hcs:j=0\/j=1\/j=2\/j=3\/j=4\/j=5:=by omega
  rcases hcs with rfl | rfl | rfl | rfl | rfl | rfl
  ·refine⟨0,rfl,by decide,?_⟩;refine⟨[i64 70,.func (.func 144) #[] #[At0 (L+1)]],rfl,zaD (n:=0) (m:=2) (zab hsl),hlt hsl,?_⟩;refine zan (X:=X) (v := .agg [i64 70,.func (.func 144) #[] #[At0 (L+1)]].toArray) k155 rfl rfl rfl fun Y hbY fY sY=>?_;have hY:=hD.below hbY;have hevY:=zaa hbY hev;have hslY:=zaa hbY hsl;refine⟨_,zac (zab fY) (i:=1) rfl,?_⟩;refine cmo (zsd hY) ?_;rintro e W ⟨rfl,hbW⟩;have hbX:Bw w W:=((zst hbw hbY)).trans (hbW.mono (Nat.le_trans hbw.size hbY.size));refine biE (fun hb=>?_) fun hb=>?_
   ·have hb:(!((okL p)[0]'(by show 0<6;decide)))=true:=hb;have hb:(okL p)[0]?=some false:=(by rw [gE (by show 0<6;decide)];exact congrArg some (by rw [<- Bool.not_not ((okL p)[0]'(by show 0<6;decide)),hb];rfl));refine⟨_,zac (zab (zaa hbW fY)) (i:=0) rfl,?_⟩;exact⟨70,rfl,⟨fun h=>absurd h (by decide),fun h=>by rw [hno hb] at h;cases h⟩,hbX⟩
   ·have hb:(!((okL p)[0]'(by show 0<6;decide)))=false:=hb;have hb:(okL p)[0]?=some true:=(by rw [gE (by show 0<6;decide)];exact congrArg some (by rw [<- Bool.not_not ((okL p)[0]'(by show 0<6;decide)),hb];rfl));refine⟨_,(zak (by omega)).trans rfl,?_⟩;refine⟨1,(cvE rfl rfl),⟨by omega,fun i hi=>?_,hY.below hbW,zaa hbW hevY,zaa hbW hslY,hbX⟩,by decide⟩;by_cases hik:i=0
    ·rw [hik];exact hb
    ·exact hpre i (by omega)
  ·refine⟨1,rfl,by decide,?_⟩;refine⟨[i64 71,.func (.func 146) #[] #[At0 (L+1)]],rfl,zaD (n:=2) (m:=2) (zab hsl),hlt hsl,?_⟩;refine zan (X:=X) (v := .agg [i64 71,.func (.func 146) #[] #[At0 (L+1)]].toArray) k155 rfl rfl rfl fun Y hbY fY sY=>?_;have hY:=hD.below hbY;have hevY:=zaa hbY hev;have hslY:=zaa hbY hsl;refine⟨_,zac (zab fY) (i:=1) rfl,?_⟩;refine cmo (zsc hY) ?_;rintro e W ⟨rfl,hbW⟩;have hbX:Bw w W:=((zst hbw hbY)).trans (hbW.mono (Nat.le_trans hbw.size hbY.size));refine biE (fun hb=>?_) fun hb=>?_
   ·have hb:(!((okL p)[1]'(by show 1<6;decide)))=true:=hb;have hb:(okL p)[1]?=some false:=(by rw [gE (by show 1<6;decide)];exact congrArg some (by rw [<- Bool.not_not ((okL p)[1]'(by show 1<6;decide)),hb];rfl));refine⟨_,zac (zab (zaa hbW fY)) (i:=0) rfl,?_⟩;exact⟨71,rfl,⟨fun h=>absurd h (by decide),fun h=>by rw [hno hb] at h;cases h⟩,hbX⟩
   ·have hb:(!((okL p)[1]'(by show 1<6;decide)))=false:=hb;have hb:(okL p)[1]?=some true:=(by rw [gE (by show 1<6;decide)];exact congrArg some (by rw [<- Bool.not_not ((okL p)[1]'(by show 1<6;decide)),hb];rfl));refine⟨_,(zak (by omega)).trans rfl,?_⟩;refine⟨2,(cvE rfl rfl),⟨by omega,fun i hi=>?_,hY.below hbW,zaa hbW hevY,zaa hbW hslY,hbX⟩,by decide⟩;by_cases hik:i=1
    ·rw [hik];exact hb
    ·exact hpre i (by omega)
  ·refine⟨2,rfl,by decide,?_⟩;refine⟨[i64 72,.func (.func 148) #[] #[At0 (L+1),At0 (L+2)]],rfl,zaD (n:=4) (m:=2) (zab hsl),hlt hsl,?_⟩;refine zan (X:=X) (v := .agg [i64 72,.func (.func 148) #[] #[At0 (L+1),At0 (L+2)]].toArray) k155 rfl rfl rfl fun Y hbY fY sY=>?_;have hY:=hD.below hbY;have hevY:=zaa hbY hev;have hslY:=zaa hbY hsl;refine⟨_,zac (zab fY) (i:=1) rfl,?_⟩;refine cmo (zsb hY hevY) ?_;rintro e W ⟨rfl,hbW⟩;have hbX:Bw w W:=((zst hbw hbY)).trans (hbW.mono (Nat.le_trans hbw.size hbY.size));refine biE (fun hb=>?_) fun hb=>?_
   ·have hb:(!((okL p)[2]'(by show 2<6;decide)))=true:=hb;have hb:(okL p)[2]?=some false:=(by rw [gE (by show 2<6;decide)];exact congrArg some (by rw [<- Bool.not_not ((okL p)[2]'(by show 2<6;decide)),hb];rfl));refine⟨_,zac (zab (zaa hbW fY)) (i:=0) rfl,?_⟩;exact⟨72,rfl,⟨fun h=>absurd h (by decide),fun h=>by rw [hno hb] at h;cases h⟩,hbX⟩
   ·have hb:(!((okL p)[2]'(by show 2<6;decide)))=false:=hb;have hb:(okL p)[2]?=some true:=(by rw [gE (by show 2<6;decide)];exact congrArg some (by rw [<- Bool.not_not ((okL p)[2]'(by show 2<6;decide)),hb];rfl));refine⟨_,(zak (by omega)).trans rfl,?_⟩;refine⟨3,(cvE rfl rfl),⟨by omega,fun i hi=>?_,hY.below hbW,zaa hbW hevY,zaa hbW hslY,hbX⟩,by decide⟩;by_cases hik:i=2
    ·rw [hik];exact hb
    ·exact hpre i (by omega)
  ·refine⟨3,rfl,by decide,?_⟩;refine⟨[i64 73,.func (.func 150) #[] #[At0 (L+2),At0 (L+1)]],rfl,zaD (n:=6) (m:=2) (zab hsl),hlt hsl,?_⟩;refine zan (X:=X) (v := .agg [i64 73,.func (.func 150) #[] #[At0 (L+2),At0 (L+1)]].toArray) k155 rfl rfl rfl fun Y hbY fY sY=>?_;have hY:=hD.below hbY;have hevY:=zaa hbY hev;have hslY:=zaa hbY hsl;refine⟨_,zac (zab fY) (i:=1) rfl,?_⟩;refine cmo (zsa hY hevY) ?_;rintro e W ⟨rfl,hbW⟩;have hbX:Bw w W:=((zst hbw hbY)).trans (hbW.mono (Nat.le_trans hbw.size hbY.size));refine biE (fun hb=>?_) fun hb=>?_
   ·have hb:(!((okL p)[3]'(by show 3<6;decide)))=true:=hb;have hb:(okL p)[3]?=some false:=(by rw [gE (by show 3<6;decide)];exact congrArg some (by rw [<- Bool.not_not ((okL p)[3]'(by show 3<6;decide)),hb];rfl));refine⟨_,zac (zab (zaa hbW fY)) (i:=0) rfl,?_⟩;exact⟨73,rfl,⟨fun h=>absurd h (by decide),fun h=>by rw [hno hb] at h;cases h⟩,hbX⟩
   ·have hb:(!((okL p)[3]'(by show 3<6;decide)))=false:=hb;have hb:(okL p)[3]?=some true:=(by rw [gE (by show 3<6;decide)];exact congrArg some (by rw [<- Bool.not_not ((okL p)[3]'(by show 3<6;decide)),hb];rfl));refine⟨_,(zak (by omega)).trans rfl,?_⟩;refine⟨4,(cvE rfl rfl),⟨by omega,fun i hi=>?_,hY.below hbW,zaa hbW hevY,zaa hbW hslY,hbX⟩,by decide⟩;by_cases hik:i=3
    ·rw [hik];exact hb
    ·exact hpre i (by omega)
  ·refine⟨4,rfl,by decide,?_⟩;refine⟨[i64 75,.func (.func 153) #[] #[At0 (L+1)]],rfl,zaD (n:=8) (m:=2) (zab hsl),hlt hsl,?_⟩;refine zan (X:=X) (v := .agg [i64 75,.func (.func 153) #[] #[At0 (L+1)]].toArray) k155 rfl rfl rfl fun Y hbY fY sY=>?_;have hY:=hD.below hbY;have hevY:=zaa hbY hev;have hslY:=zaa hbY hsl;refine⟨_,zac (zab fY) (i:=1) rfl,?_⟩;refine cmo (zr9 hY) ?_;rintro e W ⟨rfl,hbW⟩;have hbX:Bw w W:=((zst hbw hbY)).trans (hbW.mono (Nat.le_trans hbw.size hbY.size));refine biE (fun hb=>?_) fun hb=>?_
   ·have hb:(!((okL p)[4]'(by show 4<6;decide)))=true:=hb;have hb:(okL p)[4]?=some false:=(by rw [gE (by show 4<6;decide)];exact congrArg some (by rw [<- Bool.not_not ((okL p)[4]'(by show 4<6;decide)),hb];rfl));refine⟨_,zac (zab (zaa hbW fY)) (i:=0) rfl,?_⟩;exact⟨75,rfl,⟨fun h=>absurd h (by decide),fun h=>by rw [hno hb] at h;cases h⟩,hbX⟩
   ·have hb:(!((okL p)[4]'(by show 4<6;decide)))=false:=hb;have hb:(okL p)[4]?=some true:=(by rw [gE (by show 4<6;decide)];exact congrArg some (by rw [<- Bool.not_not ((okL p)[4]'(by show 4<6;decide)),hb];rfl));refine⟨_,(zak (by omega)).trans rfl,?_⟩;refine⟨5,(cvE rfl rfl),⟨by omega,fun i hi=>?_,hY.below hbW,zaa hbW hevY,zaa hbW hslY,hbX⟩,by decide⟩;by_cases hik:i=4
    ·rw [hik];exact hb
    ·exact hpre i (by omega)
  ·refine⟨5,rfl,by decide,?_⟩;refine⟨[i64 74,.func (.func 154) #[] #[At0 (L+1)]],rfl,zaD (n:=10) (m:=2) (zab hsl),hlt hsl,?_⟩;refine zan (X:=X) (v := .agg [i64 74,.func (.func 154) #[] #[At0 (L+1)]].toArray) k155 rfl rfl rfl fun Y hbY fY sY=>?_;have hY:=hD.below hbY;have hevY:=zaa hbY hev;have hslY:=zaa hbY hsl;refine⟨_,zac (zab fY) (i:=1) rfl,?_⟩;refine cmo (zr8 hY) ?_;rintro e W ⟨rfl,hbW⟩;have hbX:Bw w W:=((zst hbw hbY)).trans (hbW.mono (Nat.le_trans hbw.size hbY.size));refine biE (fun hb=>?_) fun hb=>?_
   ·have hb:(!((okL p)[5]'(by show 5<6;decide)))=true:=hb;have hb:(okL p)[5]?=some false:=(by rw [gE (by show 5<6;decide)];exact congrArg some (by rw [<- Bool.not_not ((okL p)[5]'(by show 5<6;decide)),hb];rfl));refine⟨_,zac (zab (zaa hbW fY)) (i:=0) rfl,?_⟩;exact⟨74,rfl,⟨fun h=>absurd h (by decide),fun h=>by rw [hno hb] at h;cases h⟩,hbX⟩
   ·have hb:(!((okL p)[5]'(by show 5<6;decide)))=false:=hb;have hb:(okL p)[5]?=some true:=(by rw [gE (by show 5<6;decide)];exact congrArg some (by rw [<- Bool.not_not ((okL p)[5]'(by show 5<6;decide)),hb];rfl));refine⟨_,(zak (by omega)).trans rfl,?_⟩;refine⟨6,(cvE rfl rfl),⟨by omega,fun i hi=>?_,hY.below hbW,zaa hbW hevY,zaa hbW hslY,hbX⟩,by decide⟩;by_cases hik:i=5
    ·rw [hik];exact hb
    ·exact hpre i (by omega)
 ·have hc:¬ (j:Int)<6:=dF hc;obtain rfl:j=6:=by omega
  exact⟨0,rfl,⟨fun _=>by rw [zmB];exact zkN hpre rfl,fun _=>rfl⟩,hbw⟩
def ThrsW (B:Nat) (w:World) (p:Option Addr) (l:List (List InsD)):Prop:=∃ xs:List ThrR,xs.map (·.1)=l/\RowB thrE B w p xs/\∀ x∈xs,RowB insE B w x.2.1 x.1/\∀ a,x.2.1=some a->a.block<B
structure PrgX (B:Nat) (w:World) (vs:List Value) (p:Prg):Prop where
 v:PrgV B w vs p
 th:∃ p3 c3,vs[3]?=some (.slice p3 p.threads.length c3)/\ThrsW B w p3 p.threads
 init:∃ p2 c2,vs[2]?=some (.slice p2 p.init.length c2)/\RowB zaR B w p2 p.init
theorem ThrsW.below {B:Nat} {w w2:World} {p:Option Addr} {l:List (List InsD)} (h:ThrsW B w p l) (hb:Below B w w2):ThrsW B w2 p l:=by
 obtain⟨xs,h1,h2,h3⟩:=h;exact⟨xs,h1,h2.below hb,fun x hx=>⟨(h3 x hx).1.below hb,(h3 x hx).2⟩⟩
theorem PrgX.below {B:Nat} {w w2:World} {vs:List Value} {p:Prg} (h:PrgX B w vs p) (hb:Below B w w2):PrgX B w2 vs p:=by
 obtain⟨h1,⟨p3,c3,h2,h3⟩,⟨p2,c2,h4,h5⟩⟩:=h;exact⟨h1.below hb,⟨p3,c3,h2,h3.below hb⟩,⟨p2,c2,h4,h5.below hb⟩⟩
def zii (threads:List (List InsD)) (vals:List UInt8):Bool :=
 decide (1<=vals.length)&&(decide (vals.length<=12)&&((threads.all fun l=>decide ((zc1 l vals).length<=4096))&&(decide ((vals++threads.flatMap fun l=>zcj (zc1 l vals)).length<=12)&&srt8 (vals++threads.flatMap fun l=>zcj (zc1 l vals)))))
def zht (threads:List (List InsD)) (vals:List UInt8):List UInt8:=ded (vals++threads.flatMap fun l=>zcj (zc1 l vals))
def zkU (threads:List (List InsD)):Nat->List UInt8->Option (List UInt8)
 | 0,_=>none
 | n+1,vals=>if zii threads vals=true then (if (zht threads vals).length=vals.length then some vals else zkU threads n (zht threads vals)) else none
structure RunK (l:List InsD) (R:RunD):Prop where
 m:R.many<=R.pc
 p:R.pc<=l.length
 d:∀ i,R.deps i<2^32
 c:R.ctl<2^32
 s:∀ i,R.data i<2^32/\R.ctrl i<2^32/\R.att i<2^32
theorem zsL {n:Nat} (h:n<32):2^n<2^32:=Nat.pow_lt_pow_right (by decide) h
theorem zlR {f:Nat->Nat} {b:Nat} (h:∀ i,f i<b) {k v:Nat} (hv:v<b):∀ i,upd f k v i<b:=fun i=>by
 by_cases e:i=k
 ·rw [e,zaZ];exact hv
 ·rw [zcf _ _ e];exact h i
theorem RunK.emit {l:List InsD} {R:RunD} (h:RunK l R) {k a v m:UInt8} {d:Nat} (hd:d<2^32):(∀ i,(zeY R k a v m d).deps i<2^32)/\(zeY R k a v m d).ctl<2^32/\∀ i,(zeY R k a v m d).data i<2^32/\(zeY R k a v m d).ctrl i<2^32/\(zeY R k a v m d).att i<2^32:=by
 unfold zeY;exact⟨h.d,h.c,fun i=>⟨zlR (fun i=>(h.s i).1) hd i,zlR (fun i=>(h.s i).2.1) h.c i,(h.s i).2.2⟩⟩
theorem RunK.exec {l:List InsD} {R:RunD} {x:InsD} {v:UInt8} (h:RunK l R) (hx:ExOk x) (hp:R.pc<l.length) (h12:l.length<=12):RunK l (zbr R x v):=by
 obtain⟨e1,e2⟩:=zjF (R:=R) (v:=v) hx;have hm:=h.m;have hb:=zsL (n:=R.many) (by omega);have hs:(∀ i,(zbr R x v).deps i<2^32)/\(zbr R x v).ctl<2^32/\∀ i,(zbr R x v).data i<2^32/\(zbr R x v).ctrl i<2^32/\(zbr R x v).att i<2^32:=by
  unfold zbr effR;rcases hx with ⟨ho,_⟩ | ⟨ho,_⟩ | ho
  ·rw [if_pos ho];have:=h.emit (k:=1) (a:=x.loc) (v:=v) (m:=x.mode) (d:=0) (by decide);exact⟨zlR this.1 hb,this.2.1,this.2.2⟩
  ·rw [if_neg (by rw [ho];decide),if_pos ho];refine h.emit (k:=2) (a:=x.loc) (v:=(valR x.ar x.an R).1) (m:=x.mode) ?_;unfold valR
   split
   ·exact h.d _
   ·exact (by decide:0<2^32)
  ·rw [if_neg (by rw [ho];decide),if_neg (by rw [ho];decide),if_neg (by rw [ho];decide),if_neg (by rw [ho];decide),if_neg (by rw [ho];decide),if_neg (by rw [ho];decide),if_pos ho];exact h.emit (k:=3) (a:=0) (v:=0) (m:=x.mode) (d:=0) (by decide)
 exact⟨by rw [e1,e2];omega,by rw [e1];omega,hs.1,hs.2.1,hs.2.2⟩
theorem RunK.go {l:List InsD} (h12:l.length<=12) (hx:∀ x∈l,ExOk x):∀ (n:Nat) (R:RunD),RunK l R->RunK l (goR l n R)
 | 0,R,h=>h
 | n+1,R,h=>by
  unfold goR
  split
  ·exact h
  ·rename_i x he
   split
   ·exact h
   ·have hp:=(List.getElem?_eq_some_iff.1 he).1;have hm:x∈l:=List.mem_of_getElem? he;exact RunK.go h12 hx n _ (h.exec (hx x hm) hp h12)
theorem RunK.spread {l:List InsD} {dom:List UInt8} (h12:l.length<=12) (hx:∀ x∈l,ExOk x):∀ (n:Nat) (R:RunD),RunK l R->∀ S∈zaT l dom n R,RunK l S
 | 0,R,h,S,hS=>by
  have hS:S∈[goR l l.length R]:=hS;rw [List.mem_singleton] at hS;rw [hS];exact RunK.go h12 hx _ _ h
 | n+1,R,h,S,hS=>by
  have hg:=RunK.go h12 hx l.length R h;unfold zaT at hS
  split at hS
  ·rw [List.mem_singleton] at hS;rw [hS];exact hg
  ·rename_i x he;obtain⟨v,_,hS⟩:=List.mem_flatMap.1 hS;have hp:=(List.getElem?_eq_some_iff.1 he).1;have hm:x∈l:=List.mem_of_getElem? he;exact RunK.spread h12 hx n _ (hg.exec (hx x hm) hp h12) S hS
theorem zm4 {l:List InsD} {dom:List UInt8} (h12:l.length<=12) (hx:∀ x∈l,ExOk x):∀ R∈zc1 l dom,R.many<=24/\RunB R:=fun R hR=>by
 have h0:RunK l run0:=⟨Nat.le_refl _,Nat.zero_le _,fun _=>(by decide:0<2^32),(by decide:0<2^32),fun _=>⟨(by decide:0<2^32),(by decide:0<2^32),(by decide:0<2^32)⟩⟩;have h:=RunK.spread h12 hx _ _ h0 R hR;have:=h.m;have:=h.p;exact⟨by omega,fun i _=>h.s i⟩
theorem zmg {α:Type} {E:Enc α} {B:Nat} {w:World} {p:Option Addr} {l:List α} (h:RowB E B w p l) {i:Nat} (hi:i<l.length):∃ b o,p=some ⟨b,o,none⟩/\b<B/\∀ i (h:i<l.length),zaw w ⟨b,o+i*E.sz,none⟩ (E.enc l[i]):=by
 obtain⟨b,o,hp,hat⟩:=h.get;rcases hp with hp | hp
 ·omega
 ·exact⟨b,o,hp,(hat i hi).1,fun j hj=>(hat j hj).2⟩
section
variable {B n:Nat} {p:Prg} {pc:List Value} {V:List UInt8} {w:World}
theorem zoO (hB:B<=w.heap.size) (hP:PrgX B w pc p) (hG:GlobE w) (hok:zjq p=true) (hx:∀ l∈p.threads,∀ x∈l,ExOk x) (h12:∀ l∈p.threads,l.length<=12) (hi1:1<=p.init.length) (hi12:p.init.length<=12) (his:srt8 p.init=true) (hQ:zkU p.threads n (ded p.init)=some V) :
  Calls Tryz.prog 81 #[.agg pc.toArray,i64 16] w fun e w'=>(∃ (q:Option Addr) (c:Nat),e = .returned (.tuple #[.slice q V.length c,i64 0])/\OwnS zaR 5 w.heap.size w' q c V)/\Bw w w':=by
 refine cofM 60 [.agg pc.toArray,i64 16] (.c .p (.s .p (.c .p .p))) Tryz.func81 ?_;obtain⟨L,hL⟩:=nm (w.heap.size);have hpc:=hP.v.size;have hthr:=hP.v.len.threads;refine⟨Unit,fun _=>⟨[(1,i64 16),(2,AtR L)],[]⟩,fun _ X=>X.heap[L]?=some (.cells pc.toArray 71 (0,0))/\Bw w X,⟨(),⟨.cons rfl (.cons (by rw [hL];rfl) .nil),rfl⟩,by rw [hL];exact hnew w _,(zba w _)⟩,?_⟩;rintro _ X ⟨f0,hbX⟩;refine brF ?_;refine brF ?_;refine⟨pc,hpc,zab f0,hlt f0,?_⟩;refine cmo (znF (Nat.le_trans hB hbX.size) (hP.v.below (hbX.mono hB)) (hG.c.below hbX)) ?_;rintro e Y ⟨m,rfl,hm,hbY⟩;have hm0:m=0:=hm.2 hok;subst hm0;refine brF ?_;have hwY:=zst hbX hbY;have f0:=zaa hbY f0;obtain⟨_,⟨p3,c3,h3,xs,hxs,hrow,hxr⟩,⟨p2,c2,h2,hinit⟩⟩:=hP;refine⟨Option Addr×Nat,fun s=>⟨[(1,i64 16),(2,AtR L),(6,.slice s.1 (ded p.init).length s.2)],[]⟩,fun s Z=>OwnS zaR 5 w.heap.size Z s.1 s.2 (ded p.init)/\Z.heap[L]?=some (.cells pc.toArray 71 (0,0))/\Bw w Z,?_,?_⟩
 ·refine⟨_,zac (zab f0) (i:=2) (by simpa using h2),?_⟩;refine cmo (zfo ((hinit.below (hwY.mono hB)).slr (Nat.le_trans hB hwY.size)) hi1 hi12 his) ?_;rintro e Z ⟨⟨q,c,rfl,ho⟩,hbZ⟩;exact⟨(q,c),(cvE rfl rfl),OwnS.lower ho hwY.size,zaa hbZ f0,(zst hwY hbZ)⟩
 rintro⟨q,c⟩ X ⟨ho,f0,hbX⟩;refine⟨Nat×List UInt8×Option Addr×Nat,fun s=>⟨[(1,i64 16),(2,AtR L),(6,.slice s.2.2.1 s.2.1.length s.2.2.2)],[]⟩,
  fun s Z=>zkU p.threads s.1 s.2.1=some V/\OwnS zaR 5 w.heap.size Z s.2.2.1 s.2.2.2 s.2.1/\Z.heap[L]?=some (.cells pc.toArray 71 (0,0))/\Bw w Z,fun s=>s.1,(n,ded p.init,q,c),
  (cvE rfl rfl),⟨hQ,ho,f0,hbX⟩,?_⟩
 rintro⟨k,vals,q,c⟩ X ⟨hQ,ho,f0,hbX⟩;dsimp only at hQ ho ⊢
 cases k with
 | zero=>cases hQ
 | succ k =>
 have hQ:(if zii p.threads vals=true then (if (zht p.threads vals).length=vals.length then some vals else zkU p.threads k (zht p.threads vals)) else none)=some V:=hQ;have hr:zii p.threads vals=true:=by
  cases h:zii p.threads vals with
  | true=>rfl
  | false=>rw [h] at hQ;cases hQ
 rw [if_pos hr] at hQ;unfold zii at hr;simp only [bAT,dE,List.all_eq_true] at hr;obtain⟨r1,r2,r3,r4,r5⟩:=hr;refine brN (decide_eq_false (by omega)) ?_;have hq0:q=none->c=0:=fun e=>by
  rcases ho.inv with ⟨_,h,_⟩ | ⟨g,_,h,_⟩
  ·exact h
  ·rw [e] at h;cases h
 have hqb:∀ a,q=some a->a.block<X.heap.size:=fun a ha=>(zc7 ho ha).2.1;refine cmo (zkS ho.row (by omega) hq0) ?_;rintro e Y ⟨⟨q1,k1,rfl,o1⟩,hbY⟩;have hwY:=zst hbX hbY;have f0Y:=zaa hbY f0;have hl3:xs.length=p.threads.length:=by rw [<- hxs,List.length_map]
 refine⟨_,zac (zab f0Y) (i:=3) (by simpa using h3),?_⟩;obtain⟨g,hg⟩:∃ g:List InsD->List UInt8,g=fun l=>zcj (zc1 l vals):=⟨_,rfl⟩;rw [<- hg] at r4 r5;have hnx:zht p.threads vals=ded (vals++p.threads.flatMap g):=by unfold zht;rw [hg]
 refine⟨Nat×Option Addr×Nat,fun s=>⟨[(1,i64 16),(2,AtR L),(6,.slice q vals.length c),(7,.slice s.2.1 (vals++(p.threads.take s.1).flatMap g).length s.2.2),(33,.slice p3 p.threads.length c3),(34,i64 p.threads.length),(35,i64 (s.1:Nat))],[]⟩,
  fun s Z=>s.1<=p.threads.length/\OwnS zaR 5 X.heap.size Z s.2.1 s.2.2 (vals++(p.threads.take s.1).flatMap g)/\Bw X Z,fun s=>p.threads.length-s.1,(0,q1,k1),
  ⟨.cons rfl (.cons rfl (.cons rfl (.cons (by rw [List.take_zero,List.flatMap_nil,List.append_nil];rfl) (.cons rfl (.cons rfl (.cons rfl .nil)))))),rfl⟩,⟨Nat.zero_le _,by show OwnS zaR _ _ _ _ _ (vals++(p.threads.take 0).flatMap g);rw [List.take_zero,List.flatMap_nil,List.append_nil];exact o1,hbY⟩,?_⟩
 rintro⟨m,q1,k1⟩ Y ⟨hm,o1,hbY⟩;dsimp only at hm o1 ⊢;have hwY:=zst hbX hbY;have f0Y:=zaa hbY f0;have hXY:=hbY.size;have lenTake:∀ j,(vals++(p.threads.take j).flatMap g).length<=12:=fun j=>by
  have e:p.threads.flatMap g=(p.threads.take j).flatMap g++(p.threads.drop j).flatMap g:=by rw [<- List.flatMap_append,List.take_append_drop]
  rw [e,<- List.append_assoc,lap] at r4;omega
 refine biE (fun hc=>?_) fun hc=>?_
 ·have hc:(m:Int)<(p.threads.length:Int):=dT hc;have hmt:m<p.threads.length:=by omega
  have hmx:m<xs.length:=by omega
  obtain⟨b3,o3,hp3,hb3,hat3⟩:=zmg (hrow.below (hwY.mono hB)) hmx;have hB2:b3<Y.heap.size:=nL hb3 (Nat.le_trans hB hwY.size);have e3:some (Value.slice p3 p.threads.length c3)=some (Value.slice (some ⟨b3,o3,none⟩) p.threads.length c3):=by rw [hp3]
  subst hp3;refine⟨m,rfl,hmt,?_⟩;refine⟨thrV xs[m],by have:=zac (hat3 m hmx) (i:=0) (v:=thrV xs[m]) rfl;exact this,?_⟩;obtain⟨hrm,hrb⟩:=hxr _ (gM hmx);have hxm:xs[m].1=p.threads[m]:=by
   have:=congrArg (fun l=>l[m]?) hxs;simp only [List.getElem?_map,gE hmx,gE hmt,Option.map_some,Option.some.injEq] at this;exact this
  have hmem:=gM hmt;have ex:=hx _ hmem;have e12:=h12 _ hmem;have hxl:xs[m].1.length=p.threads[m].length:=by rw [hxm]
  have hw:=znL (w:=Y) (l:=p.threads[m]) (dom:=vals) (q:=xs[m].2.1) (p:=q) (cap:=xs[m].2.2) (cd:=c) (by rw [<- hxm];exact (hrm.below (hwY.mono hB)).slr (Nat.le_trans hB hwY.size)) (ho.row.below hbY) e12 ex (fun R hR=>(zm4 e12 ex R hR).1) (r3 _ hmem) (fun a ha=>nL (hrb a ha) (Nat.le_trans hB hwY.size)) (fun a ha=>nL (hqb a ha) hXY) (by omega);rw [<- hxl] at hw;have eg:zcj (zc1 p.threads[m] vals)=g p.threads[m]:=by rw [hg]
  rw [eg] at hw;refine cmo hw ?_;rintro e Z ⟨⟨q2,k2,rfl,o2⟩,hbZ⟩;refine brF ?_;have tk:(p.threads.take (m+1)).flatMap g=(p.threads.take m).flatMap g++g p.threads[m]:=by
   rw [tsg hmt,List.flatMap_append,List.flatMap_cons,List.flatMap_nil,List.append_nil]
  have l1:=lenTake m;have l2:=lenTake (m+1);rw [tk,<- List.append_assoc,lap] at l2;have hXZ:=hbY.trans (hbZ.mono hXY);have hsZ:=hbZ.size;refine zhY (E:=zaR) (T:=5) (B:=X.heap.size) (l:=vals++(p.threads.take m).flatMap g) (news:=g p.threads[m]) (cap:=k1) (m:=(g p.threads[m]).length) Tryz.underlying65 k5 rfl rfl rfl (o1.below hbZ) rfl o2.row (fun e=>by
   rcases o2.inv with ⟨_,h,_⟩ | ⟨g',_,h,_⟩
   ·exact h
   ·rw [e] at h;cases h) (by omega) (by omega) (by show ((vals++(p.threads.take m).flatMap g).length+(g p.threads[m]).length)*1<=_;omega) ?_
  intro q4 k4 U oU gU hbU;rw [List.append_assoc,<- tk] at oU ⊢;refine nxI (by omega) ?_;exact⟨(m+1,q4,k4),(cvE rfl rfl),⟨hmt,oU,hXZ.trans hbU⟩,zdc (by omega)⟩
 ·have hc:¬ (m:Int)<(p.threads.length:Int):=dF hc;obtain rfl:m=p.threads.length:=by omega
  rw [List.take_length] at o1 ⊢;refine cmo (zfo o1.row (by rw [lap];omega) r4 r5) ?_;rintro e Z ⟨⟨q2,k2,rfl,o2⟩,hbZ⟩;rw [<- hnx] at o2 ⊢;have hXZ:=hbY.trans (hbZ.mono hXY);have hwZ:=zst hbX hXZ;refine biE (fun he=>?_) fun he=>?_
  ·have he:(zht p.threads vals).length=vals.length:=by
    have:=dT he;omega
   rw [if_pos he] at hQ;simp only [Option.some.injEq] at hQ;subst hQ;exact⟨⟨q,c,rfl,ho.below hXZ⟩,hwZ⟩
  ·have he:¬ (zht p.threads vals).length=vals.length:=fun e=>(dF he) (by rw [e]);rw [if_neg he] at hQ;exact⟨(k,zht p.threads vals,q2,k2),(cvE rfl rfl),⟨hQ,OwnS.lower o2 hwY.size,zaa hXZ f0,hwZ⟩,Nat.lt_succ_self k⟩
end
section
variable {w:World} {bP cv B:Nat} {pc:List Value} {qv:Option Addr} {V:List UInt8} {p:Prg}
theorem zp4 (fP:w.heap[bP]?=some (.cells pc.toArray 71 (0,0))) (hB:B<=w.heap.size) (hP:PrgX B w pc p) (hil:p.locs.length=p.init.length) (hi6:p.init.length<=6) (hG:GlobE w) (hV:SlR zaR w qv V) (hv1:1<=V.length) (hv12:V.length<=12) (hvs:srt8 V=true) (hd12:(ded V).length<=12)
  (ht4:p.threads.length<=4) (hT:∀ l∈p.threads,ThrQ V l) (hall:∀ k,k<=p.threads.length->zeL ((p.threads.take k).map fun l=>(zaE V l).length)<=4096) (hpb:∀ l∈p.threads,∀ P∈zaE V l,PathB p.init.length P)
  (hsome:∀ ds∈zeC ((p.threads.map (zaE V)).map List.length),(mixR p.init (zeN (p.threads.map (zaE V)) ds)).isSome=true) :
  Calls Tryz.prog 82 #[At0 bP,.slice qv V.length cv] w fun e w'=>(∃ (ms:List MixX) (q:Option Addr) (c:Nat),e = .returned (.tuple #[.slice q ms.length c,.bool true])/\ms.map (·.m)=zmG p.init (p.threads.map (zaE V))/\OwnS mixE 119 w.heap.size w' q c ms/\∀ x∈ms,NInM w.heap.size (fun k=>w.heap.size<=k) w' x)/\Bw w w':=by
 refine cofM 89 [At0 bP,.slice qv V.length cv] (.c .p (.c .p (.s .p (.s .p (.c .p (.c .p (.s .p .p))))))) Tryz.func82 ?_;obtain⟨L,hL⟩:=nm (w.heap.size);have hbP:=hlt fP;refine⟨Unit,fun _=>⟨[(1,.slice qv V.length cv),(2,At0 L),(4,At0 (L+1)),(5,At0 (L+2))],[]⟩,fun _ X=>X.heap[L]?=some (.cells #[At0 bP] 116 (0,0))/\X.heap[L+1]?=some (.cells #[.slice none 0 0] 113 (0,0))/\X.heap[L+2]?=some (.cells #[.bool false] 4 (0,0))/\X.heap.size=L+3/\Bw w X,?_,?_⟩
 ·have s1:=wz w (.cells #[At0 bP] 116);have h2:=hnew (w.alloc (.cells #[At0 bP] 116)) (.cells #[.slice none 0 0] 113);have s2:=wz (w.alloc (.cells #[At0 bP] 116)) (.cells #[.slice none 0 0] 113);have h3:=hnew ((w.alloc (.cells #[At0 bP] 116)).alloc (.cells #[.slice none 0 0] 113)) (.cells #[.bool false] 4);have s3:=wz ((w.alloc (.cells #[At0 bP] 116)).alloc (.cells #[.slice none 0 0] 113)) (.cells #[.bool false] 4);rw [s1] at h2 s2;rw [s2] at h3 s3;refine⟨(),⟨.cons rfl (.cons (by rw [hL];rfl) (.cons (by rw [hL,<- s1];rfl) (.cons (by rw [hL,<- s2];rfl) .nil))),rfl⟩,?_,?_,?_,?_,?_⟩
  ·rw [hL];exact hold _ (hold _ (hnew w _))
  ·rw [hL];exact hold _ h2
  ·rw [hL];exact h3
  ·rw [hL];exact s3
  ·exact (((zba w _)).alloc (by simp) _).alloc (by simp;omega) _
 rintro _ X ⟨f0,f1,f2,sX,hbX⟩;refine⟨Unit,fun _=>⟨[(1,.slice qv V.length cv),(2,At0 L),(4,At0 (L+1)),(5,At0 (L+2)),(6,At0 (L+3))],[]⟩,fun _ Y=>MxS w.heap.size Y L bP [] none 0 [] none 0/\Bw w Y,?_,?_⟩
 ·refine⟨(),⟨.cons rfl (.cons rfl (.cons rfl (.cons rfl (.cons (by rw [<- sX];rfl) .nil)))),rfl⟩,⟨hold _ f0,hold _ f1,hold _ f2,by rw [<- sX];exact hnew X _,OwnS.nil,OwnS.nil,fun z hz=>(by cases hz),fun z hz=>(by cases hz)⟩,hbX.alloc hbX.size _⟩
 clear f0 f1 f2 sX hbX;rintro _ X ⟨hS,hbX⟩;have hP0:=hP;obtain⟨_,⟨p3,c3,h3,xs,hxs,hrow,hxr⟩,⟨p2,c2,h2,hinit⟩⟩:=hP;have hxl:xs.length=p.threads.length:=by rw [<- hxs,List.length_map]
 refine⟨(List TpR×Option Addr×Nat)×Option Addr×Nat,fun s=>⟨[(2,At0 L),(4,At0 (L+1)),(5,At0 (L+2)),(6,At0 (L+3)),(7,.slice s.2.1 (p.threads.map fun l=>(zaE V l).length).length s.2.2)],[]⟩,fun s Z=>MxS w.heap.size Z L bP (p.threads.map fun l=>(zaE V l).length) s.2.1 s.2.2 s.1.1 s.1.2.1 s.1.2.2/\s.1.1.map (fun z=>z.1.map (·.1))=p.threads.map (zaE V)/\Bw w Z,?_,?_⟩
 ·refine⟨_,zac (zab hS.f0) (i:=0) rfl,?_⟩;refine⟨_,zac (zab (zaa hbX fP)) (i:=3) (by simpa using h3),?_⟩;refine⟨Nat×(List TpR×Option Addr×Nat)×Option Addr×Nat,fun s=>⟨[(1,.slice qv V.length cv),(2,At0 L),(4,At0 (L+1)),(5,At0 (L+2)),(6,At0 (L+3)),(7,.slice s.2.2.1 ((p.threads.take s.1).map fun l=>(zaE V l).length).length s.2.2.2),(8,i64 (zeL ((p.threads.take s.1).map fun l=>(zaE V l).length):Nat)),(23,.slice p3 p.threads.length c3),(24,i64 p.threads.length),(25,i64 (s.1:Nat))],[]⟩,
   fun s Z=>s.1<=p.threads.length/\MxS w.heap.size Z L bP ((p.threads.take s.1).map fun l=>(zaE V l).length) s.2.2.1 s.2.2.2 s.2.1.1 s.2.1.2.1 s.2.1.2.2/\s.2.1.1.map (fun z=>z.1.map (·.1))=(p.threads.take s.1).map (zaE V)/\Bw w Z,fun s=>p.threads.length-s.1,(0,([],none,0),none,0),
   (cvE rfl rfl),⟨Nat.zero_le _,hS,rfl,hbX⟩,?_⟩
  clear hS hbX;rintro⟨k,⟨ts,pT,cT⟩,ps,cs⟩ Z ⟨hk,hS,hz,hbZ⟩;dsimp only at hk hS hz ⊢;have hts:ts.length=k:=by
   have:=congrArg List.length hz;rw [List.length_map,List.length_map,List.length_take] at this;omega
  refine biE (fun hc=>?_) fun hc=>?_
  ·have hc:(k:Int)<(p.threads.length:Int):=dT hc;have hkl:k<p.threads.length:=by omega
   have hkx:k<xs.length:=by omega
   have hZs:=hbZ.size;obtain⟨l,hlk⟩:∃ l,p.threads[k]=l:=⟨_,rfl⟩;have hlm:l∈p.threads:=by rw [<- hlk];exact gM hkl
   have hQ:=hT l hlm;obtain⟨b3,o3,hp3,hb3,hat3⟩:=zmg (hrow.below (hbZ.mono hB)) hkx;have hB2:b3<Z.heap.size:=by omega
   have e3:some (Value.slice p3 p.threads.length c3)=some (Value.slice (some ⟨b3,o3,none⟩) p.threads.length c3):=by rw [hp3]
   subst hp3;refine⟨k,rfl,hkl,?_⟩;refine⟨thrV xs[k],by have:=zac (hat3 k hkx) (i:=0) (v:=thrV xs[k]) rfl;exact this,?_⟩;obtain⟨hrm,hrb⟩:=hxr _ (gM hkx);have hxm:xs[k].1=l:=by
    have:=congrArg (fun l=>l[k]?) hxs;simp only [List.getElem?_map,gE hkx,gE hkl,Option.map_some,Option.some.injEq] at this;rw [this,hlk]
   have hpt:(p.threads.take (k+1))=p.threads.take k++[l]:=by rw [tsg hkl,hlk]
   refine cmo (zq7 (l:=xs[k].1) (vals:=V) ((hrm.below (hbZ.mono hB)).slr (by omega)) (hV.below hbZ) hv1 hv12 hvs (by rw [hxm];exact hQ.ex) (by rw [hxm];exact hQ.ok) (hG.below hbZ) (by rw [hxm];exact zm4 hQ.l12 hQ.ex) (by rw [hxm];exact hQ.m) (fun a ha=>by have:=hrb a ha;omega) hd12) ?_;rintro e Y ⟨⟨rk,pk,ck,rfl,hrk,ork,onk⟩,hbY⟩;rw [hxm] at hrk;have hrk:rk.map (·.1)=zaE V l:=hrk;have hrkl:rk.length=(zaE V l).length:=by rw [<- hrk,List.length_map]
   have hpl:(zaE V l).length<=4096:=by rw [List.length_map];exact hQ.m
   have hSY:=hS.below hbY;have hpr:=hall (k+1) hkl;have hpr0:=hall k (by omega);rw [hpt,List.map_append] at hpr;have hpr:zeL ((p.threads.take k).map (fun l=>(zaE V l).length)++[(zaE V l).length])<=4096:=hpr;rw [zgW,<- hrkl] at hpr;obtain⟨A,hA⟩:=nm (zeL ((p.threads.take k).map fun l=>(zaE V l).length));have hA2:zeL ((p.threads.take (k+1)).map fun l=>(zaE V l).length)=A*rk.length:=by
    rw [hpt,List.map_append];show zeL ((p.threads.take k).map (fun l=>(zaE V l).length)++[(zaE V l).length])=_;rw [zgW,<- hrkl,hA]
   rw [<- hA] at hpr hpr0 ⊢;obtain⟨nz,hnz⟩:∃ nz:TpR,nz=(rk,pk,ck):=⟨_,rfl⟩;have hen:[Value.slice pk rk.length ck]=tpE.enc nz:=by rw [hnz];rfl
   refine⟨((A*rk.length:Nat):Int),by rw [<- Int.natCast_mul];exact zak (by omega),?_⟩;refine brF ?_;refine brN (decide_eq_false (by omega)) ?_;refine⟨_,zac (zab hSY.f3) (i:=0) rfl,?_⟩;refine⟨⟨by decide,by decide,rfl⟩,tpE.enc nz,by rw [<- hen];rfl,?_⟩;have hb1:Bw Y (Y.alloc (.cells (tpE.enc nz).toArray 160)):=zba _ _;have hS1:=hSY.below hb1;have ork1:=ork.below hb1;have onk1:=fun x hx=>(onk x hx).same (Z:=Y.alloc (.cells (tpE.enc nz).toArray 160)) fun {α E T c q l} _ ho=>ho.below hb1;unfold opsE zda;show SatR _ _;refine appT hS1.rk (zbg tpE nz) (by have:=hb1.size;have:=hbY.size;omega) (by omega) fun p' c' U oU gU hat1=>?_;have f0U:=zaV hS1.f0 hS1.rk (by decide) gU;have f1U:=zaV hS1.f1 hS1.rk (by decide) gU;have f2U:=zaV hS1.f2 hS1.rk (by decide) gU;have f3U:=zaV hS1.f3 hS1.rk (by decide) gU;refine zas k159 f3U (o:=0) (v := .slice p' (ts++[nz]).length c') rfl rfl (by show 0<1;decide) rfl fun S fS gS sS=>?_;have hbZY:=hbZ.trans (hbY.mono hZs);have sY:=hbY.size;have sb1:=hb1.size;have hbU:Bw w U:=(hbZY.trans (hb1.mono (by omega))).trans (za7 hS1.rk (by omega) (Nat.le_refl _) gU);have hbS:Bw w S:=hbU.trans (zap gS hbU.size (by omega));have hSS:MxS w.heap.size S L bP ((p.threads.take k).map fun l=>(zaE V l).length) ps cs (ts++[nz]) p' c':=by
    have kU:∀ {α:Type} {E:Enc α} {T cc:Nat} {r:Option Addr} {ll:List α},T≠160->T≠159->OwnS E T w.heap.size (Y.alloc (.cells (tpE.enc nz).toArray 160)) r cc ll->OwnS E T w.heap.size S r cc ll:=fun {α E T cc r ll} h1 h2 h=>zaY (zb7 h hS1.rk h1 gU) f3U h2 gS;have kB:∀ {b:Nat} {o:Obj},b≠L+3->U.heap[b]?=some o->S.heap[b]?=some o:=fun {b o} hb h=>(gS.block b (hlt h) (by simpa using hb)).trans h;have kP:∀ x:PthR,PthO w.heap.size (Y.alloc (.cells (tpE.enc nz).toArray 160)) x->PthO w.heap.size S x:=fun x hx=>hx.same fun {α E T c q l} ht ho=>kU (by rcases ht with rfl | rfl <;> decide) (by rcases ht with rfl | rfl <;> decide) ho;refine⟨kB (by omega) f0U,kB (by omega) f1U,kB (by omega) f2U,fS,kU (by decide) (by decide) hS1.own,zaY oU f3U (by decide) gS,fun z hz=>?_,fun z hz=>?_⟩
    ·rcases List.mem_append.1 hz with hz | hz
     ·exact kU (by decide) (by decide) (hS1.n1 z hz)
     ·rw [List.mem_singleton.1 hz,hnz];exact kU (by decide) (by decide) (ork1.lower hZs)
    ·rcases List.mem_append.1 hz with hz | hz
     ·exact fun x hx=>kP x (hS1.n2 z hz x hx)
     ·rw [List.mem_singleton.1 hz,hnz];exact fun x hx=>kP x ((onk1 x hx).mono hZs)
   clear hS1 ork1 onk1 hSY hS oU gU hat1 f0U f1U f2U f3U fS gS;refine⟨⟨by decide,by decide,rfl⟩,natE.enc rk.length,rfl,?_⟩;have hb2:Bw S (S.alloc (.cells (natE.enc rk.length).toArray 3)):=zba _ _;have hS2:=hSS.below hb2;have sbS:=hbS.size;have sb2:=hb2.size;unfold opsE zda;show SatR _ _;refine appI hS2.own (zbg natE rk.length) (by omega) (by rw [List.length_map,List.length_take];omega) fun p2' c2' V' oV gV hat2=>?_;rw [zcD] at gV;have hSV:=hS2.size oV gV;have hzz:((p.threads.take k).map fun l=>(zaE V l).length)++[rk.length]=(p.threads.take (k+1)).map fun l=>(zaE V l).length:=by
    rw [hpt,List.map_append,hrkl];rfl
   rw [hzz] at hSV ⊢;refine nxI (by omega) ?_;refine⟨(k+1,(ts++[nz],p',c'),p2',c2'),⟨.cons rfl (.cons rfl (.cons rfl (.cons rfl (.cons rfl (.cons rfl (.cons (by show _=some (i64 (zeL ((p.threads.take (k+1)).map fun l=>(zaE V l).length):Nat));rw [hA2];rfl) (.cons rfl (.cons rfl (.cons rfl .nil))))))))),rfl⟩,⟨hkl,hSV,?_,hbS.trans ((hb2.mono sbS).trans (za7 hS2.own (by omega) (Nat.le_refl _) gV))⟩,zdc (by omega)⟩;rw [hpt,List.map_append,List.map_append,hz,hnz];show _++[rk.map (·.1)]=_++[zaE V l];rw [hrk]
  ·have hc:¬ (k:Int)<(p.threads.length:Int):=dF hc;obtain rfl:k=p.threads.length:=by omega
   rw [List.take_length] at hz hS ⊢;exact⟨((ts,pT,cT),ps,cs),(cvE rfl rfl),hS,hz,hbZ⟩
 rintro⟨⟨ts,pT,cT⟩,ps,cs⟩ X ⟨hS,hz,hbX⟩;dsimp only at hS hz ⊢;obtain⟨Q,hQ⟩:=nm (X.heap.size);refine⟨Unit,fun _=>⟨[(2,At0 L),(4,At0 (L+1)),(5,At0 (L+2)),(6,At0 (L+3)),(7,.slice ps (p.threads.map fun l=>(zaE V l).length).length cs),(13,At0 Q)],[]⟩,fun _ Z=>MxS w.heap.size Z L bP (p.threads.map fun l=>(zaE V l).length) ps cs ts pT cT/\Z.heap[Q]?=some (.cells #[.slice none 0 0] 113 (0,0))/\Z.heap.size=Q+1/\Bw w Z,?_,?_⟩
 ·refine⟨(),⟨.cons rfl (.cons rfl (.cons rfl (.cons rfl (.cons rfl (.cons (by rw [hQ];rfl) .nil))))),rfl⟩,hS.below ((zba X _)),by rw [hQ];exact hnew X _,by rw [hQ];exact wz _ _,hbX.alloc hbX.size _⟩
 have hQw:w.heap.size+4<=Q:=by have:=hlt hS.f3;omega
 clear hS hbX hQ;clear X;rintro _ X ⟨hS,fQ,sX,hbX⟩;obtain⟨Ts,hTs⟩:=nm (p.threads.map (zaE V));have hTl:Ts.length=p.threads.length:=by rw [hTs,List.length_map]
 have htl:ts.length=p.threads.length:=by have:=congrArg List.length hz;simpa using this
 have hsz:(p.threads.map fun l=>(zaE V l).length)=Ts.map List.length:=by rw [hTs,List.map_map];rfl
 rw [hsz] at hS ⊢;rw [<- hTs] at hsome hz ⊢;have hsl1:(Ts.map List.length).length<=1000:=by rw [List.length_map];omega
 have hsl2:∀ n∈Ts.map List.length,n<=1000000:=fun n hn=>by
  rw [hTs,List.map_map] at hn;obtain⟨l,hl,rfl⟩:=List.mem_map.1 hn;have:=(hT l hl).m;show ((zc1 l (ded V)).map zff).length<=_;rw [List.length_map];omega
 have hmemT:∀ z∈ts,∀ x∈z.1,PathB p.init.length x.1:=fun z hz' x hx=>by
  have h1:z.1.map (·.1)∈Ts:=by rw [<- hz];exact List.mem_map.2 ⟨z,hz',rfl⟩
  rw [hTs] at h1;obtain⟨l,hl,he⟩:=List.mem_map.1 h1;exact hpb l hl x.1 (by rw [he];exact List.mem_map.2 ⟨x,hx,rfl⟩)
 refine cmo zo2 ?_;rintro e V1 ⟨rfl,fo,sV1,hbV1⟩;have hI:=zrC fo (hS.own.row.below hbV1) (fun a ha=>by have:=(zav hS.own ha).2.1;omega) hsl1 hsl2;have hS1:=hS.below hbV1;have hb1:Bw w V1:=zst hbX hbV1;have hG0:Gath mixE 119 113 Q V1.heap.size Q V1 (NInM w.heap.size) [] (fun k=>k=Q) V1 :=
  ⟨Nat.le_refl _,rfl,fun k hk=>by omega,⟨none,0,zaa hbV1 fQ,OwnS.nil,fun a h=>by cases h⟩,fun x hx=>(by cases hx),Below.refl _ _⟩
 obtain⟨f,hf⟩:∃ f:List Nat->Option MixD,f=fun ds=>mixR p.init (zeN Ts ds):=⟨_,rfl⟩;have hmix:zmG p.init Ts=(zeC (Ts.map List.length)).filterMap f:=by rw [hf];rfl
 refine zft (sgOk _) rfl (lb := #[At0 X.heap.size]) rfl rfl hI (Nat.le_refl _) (fun k hk=>⟨?_,rfl⟩) (fun pre vs W ⟨l,q,_,h,_⟩=>by rw [h];rfl) (by decide)
  (fun k=>k=Q) (fun pre F Y=>∃ ms,(ms.map (·.m)=pre.filterMap f/\ms.length<=pre.length)/\Gath mixE 119 113 Q V1.heap.size Q V1 (NInM w.heap.size) ms F Y) (fun _ _ _ _=>False) (fun k hk=>?_) (Gath.iter (ziA _) (by omega)) (fun ex=>⟨fun _ _ _ _ h=>h.elim,fun _ _ _ _ h=>h.elim⟩) ⟨[],⟨rfl,Nat.zero_le _⟩,hG0⟩ ?_ ?_ ?_
 ·rcases hk with (rfl | ⟨a,ha,rfl⟩) | h
  ·omega
  ·have:=(zav hS.own ha).2.1;omega
  ·exact h.elim
 ·rcases hk with rfl | ⟨a,ha,rfl⟩
  ·omega
  ·obtain⟨_,_,cur,hc⟩:=zav hS.own ha;intro e;rw [e,fQ] at hc;simp at hc
 ·rintro yl pre ds vs F Y hyl hpre hJ0 ⟨l,qd,hlast,rfl,hsl,hcel⟩ hfy ⟨lo,hlo⟩;have hdx:ds=l:=by simpa using hlast
  subst hdx;refine⟨rfl,F,KeepsG.refl _ _,hJ0,?_⟩;rintro O Y2 hY2 ⟨ms,⟨hms,hml⟩,hG2⟩;have hslY:SlR natE Y2 qd ds:=by
   rw [hY2];refine zbk hsl fun a ha=>zag fun e=>?_;obtain⟨cur,hcur⟩:=hcel a ha;rw [e,hlo] at hcur
   cases hcur
  obtain⟨hdl,hdlt⟩:=zna (hpre.subset (List.mem_append_right _ (List.mem_singleton.2 rfl)));have hsome1:=hsome ds (hpre.subset (List.mem_append_right _ (List.mem_singleton.2 rfl)));rw [List.length_map] at hdl;have hY2s:=hG2.size;have old:∀ {k:Nat} {ob:Obj},k<Q->V1.heap[k]?=some ob->Y2.heap[k]?=some ob:=fun {k ob} hk h=>(hG2.old.block k hk).trans h;have g0:=old (by omega) hS1.f0;have g3:=old (by omega) hS1.f3;have kR:∀ {α:Type} {E:Enc α} {T cc:Nat} {r:Option Addr} {ll:List α},T≠113->OwnS E T w.heap.size X r cc ll->OwnS E T w.heap.size Y2 r cc ll:=fun {α E T cc r ll} hT h=>h.same fun a ha=>by
   have hq:a.block≠Q:=fun e=>by
    obtain⟨_,_,cur,hc⟩:=zav h ha;rw [e,fQ] at hc;simp at hc;exact hT hc.2.symm
   have:=(zav h ha).2.1;exact (hG2.old.block _ (by omega)).trans (hbV1.block _ this)
  have rkY:=kR (by decide) hS.rk;have n1Y:=fun z hz=>kR (by decide) (hS.n1 z hz);have n2Y:∀ z∈ts,∀ x∈z.1,PthO w.heap.size Y2 x:=fun z hz x hx=>(hS.n2 z hz x hx).same fun {α E T c q l} ht ho=>kR (by rcases ht with rfl | rfl <;> decide) ho;have fPY:Y2.heap[bP]?=some (.cells pc.toArray 71 (0,0)):=old (by omega) ((hb1.block bP hbP).trans fP);have hbwY:Bw w Y2:=hb1.trans (hG2.old.mono (by omega));refine⟨Nat×List PthR×Option Addr×Nat,fun s=>⟨[(2,At0 L),(6,At0 (L+3)),(13,At0 Q),(15,.slice s.2.2.1 s.2.1.length s.2.2.2),(58,.slice qd ds.length ds.length),(59,i64 ds.length),(60,i64 (s.1:Nat))],[]⟩,
   fun s Z=>s.1<=ds.length/\OwnS pthE 168 Y2.heap.size Z s.2.2.1 s.2.2.2 s.2.1/\s.2.1.map (·.1)=zeN (Ts.take s.1) (ds.take s.1)/\s.2.1.length=s.1/\(∀ x∈s.2.1,∃ z∈ts,x∈z.1)/\Bw Y2 Z,fun s=>ds.length-s.1,(0,[],none,0),
   (cvE rfl rfl),⟨Nat.zero_le _,OwnS.nil,by simp [zeN],rfl,fun x hx=>(by cases hx),Below.refl _ _⟩,?_⟩
  rintro⟨k,Cs,pC,cC⟩ Z ⟨hk,oC,hCs,hCl,hCm,hbZ⟩;dsimp only at hk oC hCs hCl hCm ⊢;have hZs:=hbZ.size;refine biE (fun hc=>?_) fun hc=>?_
  ·have hc:(k:Int)<(ds.length:Int):=dT hc;have hkl:k<ds.length:=by omega
   have hkt:k<ts.length:=by omega
   obtain⟨z,hzk⟩:∃ z,ts[k]=z:=⟨_,rfl⟩;have hzm:z∈ts:=by rw [<- hzk];exact gM hkt
   have hkT:k<Ts.length:=by omega
   have hzT:Ts[k]=z.1.map (·.1):=by
    have h1:Ts[k]?=some (z.1.map (·.1)):=(by rw [<- hz,List.getElem?_map,gE hkt,hzk];rfl);rw [gE hkT] at h1;exact Option.some.inj h1
   obtain⟨d,hd⟩:∃ d,ds[k]=d:=⟨_,rfl⟩;have hdz:d<z.1.length:=by
    have:=hdlt k (Ts[k].length) d (by rw [List.getElem?_map,gE hkT];rfl) (by rw [gE hkl,hd]);rw [hzT,List.length_map] at this;exact this
   obtain⟨x,hx⟩:∃ x,z.1[d]=x:=⟨_,rfl⟩;have hxm:x∈z.1:=by rw [<- hx];exact gM hdz
   have hpick:zeN (Ts.take (k+1)) (ds.take (k+1))=zeN (Ts.take k) (ds.take k)++[x.1]:=by
    rw [tsg hkT,tsg hkl,hd,hzT,zgX _ _ _ _ (by rw [List.length_take,List.length_take];omega),List.getElem?_map,gE hdz,hx];rfl
   obtain⟨bD,oD,hpD,hlD,hatD⟩:=(hslY.below hbZ).at hkl;obtain⟨bT,oT,hpT,hlT,hatT⟩:=(rkY.below hbZ).row.at hkt;obtain⟨bz,oz,hpz,hlz,hatz⟩:=((n1Y z hzm).below hbZ).row.at hdz;subst hpD;subst hpT;refine⟨k,rfl,hkl,?_⟩;refine⟨i64 d,by have:=zac (hatD k hkl) (i:=0) (v:=i64 d) (by rw [hd];rfl);exact this,?_⟩;refine⟨_,zac (zab (zaa hbZ g3)) (i:=0) rfl,?_⟩;refine⟨k,rfl,hkt,?_⟩;refine⟨.slice z.2.1 z.1.length z.2.2,by have:=zac (hatT k hkt) (i:=0) (v := .slice z.2.1 z.1.length z.2.2) (by rw [hzk];rfl);exact this,?_⟩;rw [hpz];refine⟨d,rfl,hdz,?_⟩;refine⟨pthE.enc x,pthE.len x,by rw [<- hx];exact hatz d hdz,hlz,?_⟩;refine⟨⟨by decide,by decide,rfl⟩,pthE.enc x,zcK (pthE.len x) rfl,?_⟩;have hb2:Bw Z (Z.alloc (.cells (pthE.enc x).toArray 168)):=zba _ _;have sb2:=hb2.size;unfold opsE zda;show SatR _ _;refine appP (oC.below hb2) (zbg pthE x) (by omega) (by omega) fun p' c' U oU gU hat1=>?_;refine nxI (by omega) ?_;refine⟨(k+1,Cs++[x],p',c'),(cvE rfl rfl),⟨hkl,oU,by rw [List.map_append,hCs,hpick];rfl,by rw [lap,hCl];rfl,fun y hy=>?_,hbZ.trans ((hb2.mono hZs).trans (za7 (oC.below hb2) (by omega) (Nat.le_refl _) gU))⟩,zdc (by omega)⟩;rcases List.mem_append.1 hy with hy | hy
   ·exact hCm y hy
   ·rw [List.mem_singleton.1 hy];exact⟨z,hzm,hxm⟩
  have hc:¬ (k:Int)<(ds.length:Int):=dF hc;obtain rfl:k=ds.length:=by omega
  rw [List.take_length,List.take_of_length_le (by omega)] at hCs;obtain⟨q1,k1,q2,k2,q3,k3,q4,k4,hvs,_⟩:=hP0.v.h;have hpc1:pc[1]?=some (.slice q1 p.init.length k1):=by rw [hvs,<- hil];rfl
  have hZw:w.heap.size<=Z.heap.size:=by have:=hbwY.size;omega
  refine⟨_,zac (zab (zaa hbZ g0)) (i:=0) rfl,?_⟩;obtain⟨mx,hmx⟩:∃ mx,mixR p.init (Cs.map (·.1))=some mx:=by
   rw [hCs];exact Option.isSome_iff_exists.1 hsome1
  have hfd:f ds=some mx:=by rw [hf,<- hmx,hCs]
  refine cmo (zlA (zaa hbZ fPY) hpc1 h2 ((hinit.below (((zst hbwY hbZ)).mono hB)).slr (by omega)) hi6 oC.row (fun x hx=>?_) (fun x hx=>?_) (by omega)) ?_
  ·obtain⟨z,hz1,hx1⟩:=hCm x hx;obtain⟨o1,o2,o3,o4⟩:=n2Y z hz1 x hx1;refine⟨fun a ha=>?_,(o1.below hbZ).row,(o2.below hbZ).row,(o3.below hbZ).row,(o4.below hbZ).row⟩;rcases ha with ha | ha | ha
   ·exact (zav (o2.below hbZ) ha).2.1
   ·exact (zav (o3.below hbZ) ha).2.1
   ·exact (zav (o4.below hbZ) ha).2.1
  ·obtain⟨z,hz1,hx1⟩:=hCm x hx;exact hmemT z hz1 x hx1
  rintro e U ⟨⟨vs,hres⟩,hbU⟩;rw [hmx] at hres;obtain⟨rfl,x1,x2,x3,x4,y1,y2,y3,y4,xs',ys',hvs',m1,m2,m3,m4,m5,m6,m7,m8⟩:=hres;obtain⟨nx,hnx⟩:∃ nx:MixX,nx=⟨mx,x1,y1,x2,y2,x3,y3,x4,y4,xs',ys'⟩:=⟨_,rfl⟩;have hen:vs=mixE.enc nx:=by rw [hvs',hnx];rfl
  have hvl:vs.length=336:=by rw [hen];exact mixE.len nx
  have hv1:vs.all Value.oneCell'=true:=by rw [hen];exact zkl nx
  have hUs:=hbU.size;refine zan (X:=U) (v := .agg vs.toArray) k119 hvl zb2 hv1 fun V' hbV fV sV=>?_;have fV:V'.heap[U.heap.size]?=some (.cells vs.toArray 119 (0,0)):=fV;refine brF ?_;have hbY2V:Bw Y2 V':=(hbZ.trans (hbU.mono hZs)).trans (hbV.mono (by omega));obtain⟨pr,cr,h4,h5,h6⟩:=hG2.row;refine⟨_,zac (zab (zaa hbY2V h4)) (i:=0) rfl,?_⟩;refine⟨vs,hvl,zab fV,hlt fV,?_⟩;refine⟨⟨by decide,by decide,zb2⟩,mixE.enc nx,by rw [<- hen];exact zcK hvl zb2,?_⟩;have hpl:pre.length<1000000000:=by
   obtain⟨t,ht⟩:=hpre;have h7:(pre++[ds]++t).length=zbf (Ts.map List.length).reverse:=by
    rw [ht];unfold zeC;rw [List.length_map,List.length_range]
   have h8:zbf (Ts.map List.length).reverse<=4096:=by
    have h9:=hall p.threads.length (Nat.le_refl _);rw [List.take_length,hsz] at h9;rw [zmq];exact h9
   simp only [lap,List.length_cons] at h7;omega
  have hnw:∀ (G:Nat->Prop) (S:World),(∀ k,Y2.heap.size<=k->k<V'.heap.size->S.heap[k]?=V'.heap[k]?)->(∀ k,Y2.heap.size<=k->k<V'.heap.size->G k)->NInM w.heap.size G S nx:=by
   intro G S hs hg;have kp:∀ {α:Type} {E:Enc α} {T cc:Nat} {r:Option Addr} {ll:List α},OwnS E T Z.heap.size U r cc ll->RowIn E T w.heap.size G S r cc ll:=fun {α E T cc r ll} h=>by
    have ol:∀ a,r=some a->Y2.heap.size<=a.block/\a.block<V'.heap.size:=fun a ha=>⟨by have:=(zav h ha).1;omega,by have:=(zav h ha).2.1;omega⟩;exact⟨OwnS.lower ((h.below hbV).same fun a ha=>hs _ (ol a ha).1 (ol a ha).2) hZw,fun a ha=>hg _ (ol a ha).1 (ol a ha).2⟩
   rw [hnx];exact⟨m3,m6,kp m1,kp m2,kp m4,fun y hy=>kp (m5 y hy),kp m7,fun y hy=>kp (m8 y hy)⟩
  obtain⟨v,Y5,hrun,S,hrun2,F',hG',hK',hFF'⟩:=hG2.step (P:=Tryz.prog) (ty:=113) (cap1:=1) (ziA _) (by decide) Tryz.underlying113 k119 rfl rfl (by show _=336;exact zb2) k113 rfl (by omega) (Nat.le_refl _) hbY2V nx (by omega) (by show (ms.length+1)*2488<=_;omega) hnw pr cr h4;unfold opsE zda;refine SatR.mk hrun ?_;refine SatR.mk hrun2 ?_;refine⟨F',⟨_,⟨?_,by rw [lap,lap];show ms.length+1<=pre.length+1;omega⟩,hG'⟩,hK'⟩;rw [List.map_append,List.filterMap_append,hms];show _++[nx.m]=_++List.filterMap f [ds];rw [show List.filterMap f [ds]=[mx] by rw [List.filterMap_cons,hfd];rfl,hnx]
 ·rintro D F Y hD hfD ⟨ms,⟨hms,hml⟩,hG⟩ hdef;obtain⟨pr,cr,h4,h5,h6⟩:=hG.row;have hYs:=hG.size;have old:∀ {k:Nat} {ob:Obj},k<Q->V1.heap[k]?=some ob->Y.heap[k]?=some ob:=fun {k ob} hk h=>(hG.old.block k hk).trans h;have g1:=old (by omega) hS1.f1;have g2:=old (by omega) hS1.f2;refine⟨_,zac (zab h4) (i:=0) rfl,?_⟩;refine zas k113 g1 (o:=0) (v := .slice pr ms.length cr) rfl rfl (by show 0<1;decide) rfl fun Z1 fZ1 gZ1 sZ1=>?_;refine zas k4 ((gZ1.block (L+2) (hlt g2) (by simp)).trans g2) (o:=0) (v := .bool true) rfl rfl (by show 0<1;decide) rfl fun Z2 fZ2 gZ2 sZ2=>?_;have k2:∀ k,k<Y.heap.size->k≠L+1->k≠L+2->Z2.heap[k]?=Y.heap[k]?:=fun k hk n1 n2=>(gZ2.block k (by rw [sZ1];exact hk) (by simpa using n2)).trans (gZ1.block k hk (by simpa using n1));refine⟨_,rfl,(k2 D (hlt hdef) (by omega) (by omega)).trans hdef,?_⟩;have f2':=(gZ2.block (L+1) (hlt fZ1) (by simp)).trans fZ1;have kp:∀ a:Addr,a.block≠L+1->a.block≠L+2->F a.block->a.block<Y.heap.size->(Z2.putObj D (.deferred none)).heap[a.block]?=Y.heap[a.block]?:=fun a n1 n2 h2 h3=>(zag fun e=>by rw [<- e] at hfD;exact hfD h2).trans (k2 _ h3 n1 n2);have hwY:=hb1.trans (hG.old.mono (by omega));have b2:=(hwY.trans (zap gZ1 hwY.size (by omega))).trans (zap gZ2 (by have:=hwY.size;omega) (by omega));have ne:∀ {α:Type} {E:Enc α} {T B' cc:Nat} {r:Option Addr} {ll:List α},T≠113->T≠4->OwnS E T B' Y r cc ll->∀ a,r=some a->a.block≠L+1/\a.block≠L+2:=fun {α E T B' cc r ll} t1 t2 h a ha=>by
   obtain⟨_,_,cur,hc⟩:=zav h ha;refine⟨fun e=>?_,fun e=>?_⟩
   ·rw [e,g1] at hc;simp at hc;exact t1 hc.2.symm
   ·rw [e,g2] at hc;simp at hc;exact t2 hc.2.symm
  refine⟨.slice pr ms.length cr,zac (zab ((zag (by omega)).trans f2')) (i:=0) rfl,.bool true,zac (zab ((zag (by omega)).trans fZ2)) (i:=0) rfl,⟨ms,pr,cr,rfl,by rw [hms,hmix],?_,fun x hx=>?_⟩,zbG b2 (by omega) _⟩
  ·exact OwnS.lower (h5.same fun a ha=>kp a (ne (by decide) (by decide) h5 a ha).1 (ne (by decide) (by decide) h5 a ha).2 (h6 a ha) (zav h5 ha).2.1) (by omega)
  ·exact (hG.nest x hx).same fun {α E T c q l} t1 t2 t3 hr=>⟨hr.own.same fun a ha=>kp a (ne t2 t3 hr.own a ha).1 (ne t2 t3 hr.own a ha).2 (hr.inF a ha) (zav hr.own ha).2.1,fun a ha=>(zav hr.own ha).1⟩
 ·rintro D ex pre F Y hD hfD hpre h;exact h.elim
end
end Go.Proofs.YtmbghmhjjodgmaaGreatDoor
