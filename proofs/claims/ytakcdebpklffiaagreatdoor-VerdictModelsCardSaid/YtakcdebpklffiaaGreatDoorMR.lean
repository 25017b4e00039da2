/- For every input, seisinlaw12.VerdictModels returns true and its arguments read afterwards as they read before. Conditions: as the given card has them (package-level variables start as the program's text lays them; the copy of the program is pruned to the packages that the seat loads); none is added. -/
import Derived.Test.YtakcdebpklffiaaGreatDoorM1
import Derived.Test.YtakcdebpklffiaaGreatDoorM8
import Derived.Test.YtakcdebpklffiaaGreatDoorMKRowVMc
import Derived.Test.YtakcdebpklffiaaGreatDoorTie
import Derived.Test.YtakcdebpklffiaaGreatDoorCards
set_option linter.unusedSimpArgs false
set_option linter.unusedVariables false
namespace Go.Proofs.YtakcdebpklffiaaGreatDoor
open Go.Vc Go.Sei
open Go.ChangeShapes Go.WideShapes Go.ChangeAt Go.RowKit
set_option maxRecDepth 100000 in
theorem verdictModels_lifted(os:Os)(started:os.Started)(H:Type)(enc:TypeId×Value->H) :
  ReturnsInHanded {} Tryz.checked os 4 .any (fun w args=>(Rows.verdictModelsSpec.pre enc Tryz.prog Tryz.f4 [] false w args/\laidMetH Tryz.prog zbC w)/\sizedMet enc Tryz.prog Tryz.f4 (OpenSpec.ofChange Rows.verdictModelsSpec) false w args)
   (Rows.verdictModelsSpec.post enc Tryz.prog Tryz.f4 false true false false):=by
 refine zfy (C:=Tryz.checked) (X:=fun w _=>laidMetH Tryz.prog zbC w) (fun _ _ _ hh h=>h.of_heap hh) zsh started (by kernel_rfl) Tryz.func4
  (ChangeSpec.witness_shaped (enc:=enc) (C:=Tryz.checked) (os:=os) (X:=fun w _=>laidMetH Tryz.prog zbC w) false (ziP os) #[.agg #[.string ⟨#[]⟩,.slice none 0 0,.slice none 0 0,.slice none 0 0,.int .u8 0,.int .u8 0,.int .u8 0,.int .u8 0,.int .u8 0,.slice none 0 0]] 8 rfl (World.shaped_of_RefB (by kernel_rfl) (by kernel_rfl)) (by kernel_rfl) (by kernel_rfl) (by kernel_rfl) (ziO os _)) ?_
 intro W base args ds gs before hval0 hW hL hsh hz;have hval:∀(j:Nat) t v,Tryz.f4.params[j]?=some t->args[j]?=some v->Value.okWide Tryz.prog W .any base t v:=hval0;have hW':=hW;obtain⟨p,q,hA0,hV,rfl,hfz,hnd⟩:=hW;have hA:DataW.TrodAll enc Tryz.prog W 0 (fun _=>true) true Tryz.f4.params.toList args.toList ds p:=hA0;rw[Tryz.params4] at hA hval;obtain⟨v0,vs0,d0,ds0,p0,q0,hargs0,rfl,rfl,h0,r0⟩:=trodAll_cons hA;obtain⟨e0,e1,e2⟩:=trodAll_nil r0;subst e0 e1 e2;obtain rfl:args = #[v0]:=by cases args;simp_all
 obtain⟨rfl,rfl⟩:=trodVars_none hV;have hv0:=hval 0 29 v0 rfl rfl;obtain⟨a0,rfl⟩:∃a,v0 = .agg a:=by
  have:=hv0;unfold Value.okWide at this;rw[Tryz.underlying29] at this;obtain⟨cs,h,_⟩:=this;exact⟨cs,h⟩
 have lt0:∀x∈p0,x.block<W.heap.size:=by obtain⟨m,hm⟩:=h0;exact DataW.trod_lt m _ _ _ hm
 obtain⟨ds',gs',bf',hZ,hwt⟩:=hz;obtain⟨p',q',hA1,_,_,_,_⟩:=hZ;have hA2:DataW.TrodAll enc Tryz.prog W 0 (fun _=>true) true Tryz.f4.params.toList [.agg a0] ds' p':=hA1;rw[Tryz.params4] at hA2 hwt;obtain⟨u0,us0,t0,ts0,o0,oo0,z0,rfl,rfl,k0,m0⟩:=trodAll_cons hA2;simp only[List.cons.injEq] at z0;obtain⟨rfl,rfl⟩:=z0;obtain⟨pg0,hw0⟩:=zqT k0 (fun n hn=>hwt n (DataW.weights_mem_each (j:=0) rfl rfl n hn));refine(zhl (Nat.le_refl _) hw0 ⟨(zcT hL hsh).needs,(zcT hL hsh).t64,(zcT hL hsh).t32⟩).mono fun e W' ⟨he,bel⟩=>?_;subst he;exact⟨_,rfl,_,_,_,[],_,[],hW',trodAll_mk1 (shut_bool Tryz.underlying4 _),(trodAll_cons_mk (Below.trod zkS (by kernel_rfl) (dT (by kernel_rfl)) h0 bel lt0) trodAll_mk0),rfl,bel.frame _,fun h=>by cases h⟩
theorem verdictModels_holds:Rows.VerdictModelsSaid :=
 OpenClaim.holds_of_wide 4 Tryz.f4 rfl rfl rfl rfl rfl rfl rfl ⟨rfl,rfl,rfl,rfl,rfl⟩ rfl rfl rfl rfl rfl (by kernel_rfl) Tryz.func4 zgd
  (dT (by kernel_rfl)) (by unfold Func.isWrapper;first | (rw[if_pos (by decide +kernel)];kernel_rfl) | (rw[if_neg (by decide +kernel)];exact⟨rfl,rfl⟩))
  (fun os started H enc _=>verdictModels_lifted os started H enc)
theorem verdictModels_card:Rows.VerdictModelsCardSaid :=
 Claim7.holds_tied_plain_at .later [] [.data, .data, .data, .data] true (true, "abb8956cfd031f670eb2b1f7f5cbabbbef3d0596c74b93762e4302bef3b06e65") true
  verdictModels_holds (fun _ h=>by cases h) (by kernel_rfl) (fun _ h=>by cases h) verdictModels_row_tie rfl ⟨rfl,rfl⟩ (by kernel_rfl) rfl
  (fun f fn hf hfn=>by
   obtain rfl : f = 4 := Option.some.inj ((show Tryz.prog.funcNamed "seisin/seisinlaw12.VerdictModels" = some 4 by kernel_rfl).symm.trans hf) |>.symm
   obtain rfl:fn=Tryz.f4:=(Option.some.inj (Tryz.func4.symm.trans hfn)).symm;exact⟨by kernel_rfl,fun j t ht=>by
    rw[Tryz.params4] at ht;rcases j with _ | j
    ·obtain rfl:t=29:=(by simpa using ht.symm);exact(show Tryz.prog.wantsStandIn 29=false by kernel_rfl)
    ·simp at ht⟩)
  (by kernel_rfl)
#print axioms verdictModels_card
end Go.Proofs.YtakcdebpklffiaaGreatDoor
