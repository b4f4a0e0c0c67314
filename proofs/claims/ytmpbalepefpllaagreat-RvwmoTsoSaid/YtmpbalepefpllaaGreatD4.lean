/- Texts put together, in order: Glitj, Gclitr, Grel, Grelb, Grelc, Glitc, Glitf, Sl20, Sl21, Sl23, Sl24, Sl25, Sl26, Sl27, Sl28, S1, Sl29, W12, Gfloa, Gflob, Gfloc, Gflod. -/
import Derived.Test.YtmpbalepefpllaaGreatRows
import Derived.Test.YtmpbalepefpllaaGreatChecked
import Derived.KernelRfl
import Derived.Shelf.SlSortCmp.PdqK
import Derived.Test.YtmpbalepefpllaaGreatD3
open List
set_option maxRecDepth 100000
set_option maxHeartbeats 16000000
set_option linter.unusedVariables false
set_option linter.unusedSimpArgs false
namespace Go.Proofs.YtmpbalepefpllaaGreat
open Go Go.Sl Go.Proofs.Tryz
theorem zfi (t:Tst) (hs:∀ l∈t.locs,l.name.size<=9223372036854775807):Pf Tryz.prog 18 [.agg t.cs] (.agg (few t).cs):=by
 refine Pf.of_fz 2 (.cons (.agg (Yb_ t)) .nil) (.agg (Yb_ _)) ?_
 refine B7 T_ok func18 rfl rfl ntmps18 rfl (by simp) ?_
 refine rG ?_ fun K h=>by simp [go_sem,Tst.cs];exact h
 refine rG ?_
 refine Z0 ⟨78,[(1,.ptr 0 0 0),(2,.ptr 1 0 0),(3,.ptr 2 0 0)],[(0,.rows 3 [.agg [.ro 2 (Z1 t.locs),.ro 1 (O3 t.ths),.ro 3 (W0_ t.asks)]]),(1,.rows 3 [.agg [.val (.slice none 0 0),.val (.slice none 0 0),.val (.slice none 0 0)]]),(2,.rows 3 [.agg [.ro 2 (Z1 (Ju_ t.locs 12)),.sl 4 0 0,.sl 3 0 0]]),(4,.rows 1 []),(3,.rows 3 [])],300⟩ ?_ ?_
 .skip
  refine rG ?_
  apply A0
  refine Tr.weaken (Weaker.ghostH (sz:=3) (es:=[.agg [.val (.slice none 0 0),.val (.slice none 0 0),.val (.slice none 0 0)]]) 2 3 [.agg [.val (.slice none 0 0),.val (.slice none 0 0),.sl 3 0 0]] (by simp [Sl.look]) (by simp) (by simp) (by simp [V.fits,V.cells,V.one]) (by simp only [flatMap_cons,flatMap_nil,V.cells,append_nil];exact .same (.same (.to .nil)))) ?_
  simp only [Sl.put,if_true,if_false,Nat.reduceEqDiff,reduceIte]
  refine Tr.weaken (Weaker.ghostH (sz:=3) (es:=[.agg [.val (.slice none 0 0),.val (.slice none 0 0),.sl 3 0 0]]) 2 1 [.agg [.val (.slice none 0 0),.sl 4 0 0,.sl 3 0 0]] (by simp [Sl.look]) (by simp) (by simp) (by simp [V.fits,V.cells,V.one]) (by simp only [flatMap_cons,flatMap_nil,V.cells,append_nil];exact .same (.to (.same .nil)))) ?_
  simp only [Sl.put,if_true,if_false,Nat.reduceEqDiff,reduceIte]
  refine Tr.weaken (Weaker.ghostH (sz:=3) (es:=[.agg [.val (.slice none 0 0),.sl 4 0 0,.sl 3 0 0]]) 2 2 [.agg [.sl 5 0 0,.sl 4 0 0,.sl 3 0 0]] (by simp [Sl.look]) (by simp) (by simp) (by simp [V.fits,V.cells,V.one]) (by simp only [flatMap_cons,flatMap_nil,V.cells,append_nil];exact .to (.same (.same .nil)))) ?_
  simp only [Sl.put,if_true,if_false,Nat.reduceEqDiff,reduceIte]
  refine A9 (α:=Nat × Nat × Nat) (fun a=>⟨78,[(1,.ptr 0 0 0),(2,.ptr 1 0 0),(3,.ptr 2 0 0),(4,iV (a.1:Nat))],[(0,.rows 3 [.agg [.ro 2 (Z1 t.locs),.ro 1 (O3 t.ths),.ro 3 (W0_ t.asks)]]),(1,.rows 3 [.agg [.val (.slice none 0 0),.val (.slice none 0 0),.val (.slice none 0 0)]]),(2,.rows 3 [.agg [.sl a.2.2 0 (Ju_ t.locs a.1).length,.sl 4 0 0,.sl 3 0 0]]),(a.2.2,.rows 2 (Z1 (Ju_ t.locs a.1))),(4,.rows 1 []),(3,.rows 3 [])],a.2.1+6⟩) (fun a=>a.1<=t.locs.length/\a.1<=12/\4<a.2.2/\a.2.2<a.2.1+6/\a.2.1=18*a.1) (fun a=>12-a.1) (0,0,5) ?_ ?_ ?_
  .dsimp only;omega
  .refine Weaker.fw 1 0 ?_ ?_
   .simp [go_sem,Qk_]
   simp [go_sem,Tst.cs,Qk_,zPa]
  rintro ⟨i,j,m⟩ ⟨hi,hi2,hm1,hm2,hj⟩
  dsimp only at hi hi2 hm1 hm2 hj ⊢
  refine A3 fun K1 hK1=>?_
  refine rK fun K hK=>?_
  have hcase:(i<t.locs.length/\i<12)\/(i<t.locs.length/\i=12)\/i=t.locs.length:=by omega
  rcases hcase with ⟨h1,h2⟩|⟨h1,rfl⟩|h1
  .have h1I:(i:Int)<(t.locs.length:Nat):=by omega
   have h2I:(i:Int)<12:=by omega
   simp [go_sem,h1,h2,h1I,h2I]
   apply hK
   refine cJ (fun h=>?_) fun h=>?_
   .simp at h
   clear h
   obtain ⟨x,hx,hx'⟩:=E0 h1
   have hi0:(0:Int)<=(i:Nat):=by omega
   have hw:=wI i
   have hsx:=hs x (List.mem_of_getElem? hx)
   have hpl:=zP7 t.locs i
   have g6:¬ m=0/\¬ 0=m/\¬ m=1/\¬ 1=m/\¬ m=2/\¬ 2=m/\¬ m=3/\¬ 3=m/\¬ m=4/\¬ 4=m/\¬ m=j+22/\¬ j+22=m/\¬ m=j+23/\¬ j+23=m:=by and_intros<;>omega
   apply A1
   apply hK1
   refine A3 fun K2 hK2=>?_
   apply A0
   refine Y9 T_ok (by kernel_rfl) 17 [[],[0],[],[2],[],[2,3,4],[2,3,4,5],[2,3,4,5,6],[2,3,4,5,6,7],[],[9],[],[9,10,11],[9,10,11,12],[9,10,11,12,13],[2,3,4,5,6,7,8,9,10,11,12,13,14],[2,3,4,5,6,7,8,9,10,11,12,13,14,15],[0,1,2,3,4,5,6,7,8,9,10,11,12,13,14,15,16],[0,1,2,3,4,5,6,7,8,9,10,11,12,13,14,15,16,17],[0,1,2,3,4,5,6,7,8,9,10,11,12,13,14,15,16,17,18]] [(0,16),(1,16)] (by decide) (by decide) (by decide) fun K hK=>?_
   first|dsimp only [List.take,List.drop]|dsimp [List.take,List.drop]
   simp [go_sem,hx,hx',hi0,h1,h1I,Wp_,Ini.cs,g6]
   refine A5 (zfh x.name 20 hsx) ?_
   simp [go_sem,hx,hx',hi0,h1,h1I,Wp_,Ini.cs,g6]
   refine ⟨by omega,?_⟩
   apply hK
   apply hK2
   refine rF ?_ fun K h=>by simp [go_sem,hw];exact h
   refine ⟨(i+1,j+18,j+23),?_,?_,?_⟩
   .dsimp only;omega
   .dsimp only;omega
   refine Weaker.fw 1 0 ?_ ?_
   .simp [go_sem,Ql_ hx]
   simp [go_sem,Ql_ hx,zAj,zP9,Wp_,Ini.cs,zj7,g6]
  .have h1I:(12:Int)<(t.locs.length:Nat):=by omega
   simp [go_sem,h1,h1I]
   apply hK
   refine cK (fun h=>?_) fun h=>?_
   .simp at h
   have hla:True:=trivial
   have g7:¬ m=0/\¬ 0=m/\¬ m=1/\¬ 1=m/\¬ m=2/\¬ 2=m/\¬ m=3/\¬ 3=m/\¬ m=4/\¬ 4=m/\¬ m=j+22/\¬ j+22=m/\¬ m=j+23/\¬ j+23=m:=by and_intros<;>omega
   apply A6
   refine Weaker.fy 1 1 ?_ ?_<;>simp [go_sem,hla,g7]
  simp [go_sem,h1]
  apply hK
  refine cK (fun h=>?_) fun h=>?_
  .simp at h
  have hla:=zP8 (l:=t.locs) (by omega)
  have g8:¬ m=0/\¬ 0=m/\¬ m=1/\¬ 1=m/\¬ m=2/\¬ 2=m/\¬ m=3/\¬ 3=m/\¬ m=4/\¬ 4=m/\¬ m=j+22/\¬ j+22=m/\¬ m=j+23/\¬ j+23=m:=by and_intros<;>omega
  apply A6
  refine Weaker.fy 1 1 ?_ ?_<;>simp [go_sem,hla,g8]
 skip
 refine Z0 ⟨78,[(1,.ptr 0 0 0),(2,.ptr 1 0 0),(3,.ptr 2 0 0)],[(0,.rows 3 [.agg [.ro 2 (Z1 t.locs),.ro 1 (O3 t.ths),.ro 3 (W0_ t.asks)]]),(1,.rows 3 [.agg [.val (.slice none 0 0),.val (.slice none 0 0),.val (.slice none 0 0)]]),(2,.rows 3 [.agg [.ro 2 (Z1 (Ju_ t.locs 12)),.ro 1 (O3 (thP t.ths 6)),.sl 3 0 0]]),(3,.rows 3 [])],400⟩ ?_ ?_
 .skip
  refine rG ?_
  apply A0
  refine A9 (α:=Nat × Nat × Nat) (fun a=>⟨78,[(1,.ptr 0 0 0),(2,.ptr 1 0 0),(3,.ptr 2 0 0),(5,iV (a.1:Nat))],[(0,.rows 3 [.agg [.ro 2 (Z1 t.locs),.ro 1 (O3 t.ths),.ro 3 (W0_ t.asks)]]),(1,.rows 3 [.agg [.val (.slice none 0 0),.val (.slice none 0 0),.val (.slice none 0 0)]]),(2,.rows 3 [.agg [.ro 2 (Z1 (Ju_ t.locs 12)),.sl a.2.2 0 (thP t.ths a.1).length,.sl 3 0 0]]),(a.2.2,.rows 1 (O3 (thP t.ths a.1))),(3,.rows 3 [])],a.2.1+300⟩) (fun a=>a.1<=t.ths.length/\a.1<=6/\3<a.2.2/\a.2.2<a.2.1+300/\a.2.1=11*a.1) (fun a=>6-a.1) (0,0,4) ?_ ?_ ?_
  .dsimp only;omega
  .refine Weaker.fw 1 1 ?_ ?_
   .simp [go_sem,zD4]
   simp [go_sem,zD4,zPb]
  rintro ⟨i,j,m⟩ ⟨hi,hi2,hm1,hm2,hj⟩
  dsimp only at hi hi2 hm1 hm2 hj ⊢
  refine A3 fun K3 hK3=>?_
  refine rK fun K hK=>?_
  have hcase:(i<t.ths.length/\i<6)\/(i<t.ths.length/\i=6)\/i=t.ths.length:=by omega
  rcases hcase with ⟨h1,h2⟩|⟨h1,rfl⟩|h1
  .have h1I:(i:Int)<(t.ths.length:Nat):=by omega
   have h2I:(i:Int)<6:=by omega
   simp [go_sem,h1,h2,h1I,h2I]
   apply hK
   refine cJ (fun h=>?_) fun h=>?_
   .simp at h
   clear h
   obtain ⟨l,hx,hx'⟩:=E0 h1
   have hi0:(0:Int)<=(i:Nat):=by omega
   have hw:=wI i
   have hpl:=zX0 t.ths i
   have g9:¬ m=0/\¬ 0=m/\¬ m=1/\¬ 1=m/\¬ m=2/\¬ 2=m/\¬ m=3/\¬ 3=m/\¬ m=j+302/\¬ j+302=m/\¬ m=j+308/\¬ j+308=m/\¬ m=j+309/\¬ j+309=m/\¬ m=j+310/\¬ j+310=m:=by and_intros<;>omega
   apply A1
   apply hK3
   refine A3 fun K4 hK4=>?_
   apply A0
   refine rG ?_ fun K h=>by simp [go_sem,hx,hx',hi0,h1,h1I];exact h
   refine Y9 T_ok (by kernel_rfl) 10 [[],[0],[],[],[],[4],[4,5],[3,4,5,6],[2,3,4,5,6,7],[2,3,4,5,6,7,8],[0,1,2,3,4,5,6,7,8,9],[0,1,2,3,4,5,6,7,8,9,10],[0,1,2,3,4,5,6,7,8,9,10,11]] [(0,2),(1,2),(2,3),(2,4),(2,5),(2,6),(2,7),(0,8),(1,8),(0,9),(1,9)] (by decide) (by decide) (by decide) fun K hK=>?_
   first|dsimp only [List.take,List.drop]|dsimp [List.take,List.drop]
   rcases Nat.lt_or_ge 12 l.length with hl|hl
   .have hlI:(12:Int)<(l.length:Nat):=by omega
    have hl2:(12:Int)<=(l.length:Nat):=by omega
    have hl3:12<=l.length:=by omega
    have ht12:True:=trivial
    have hm12:12<=min 12 l.length:=by omega
    simp [go_sem,hl,hlI,hl2,hl3,g9]
    refine ⟨by omega,?_⟩
    apply hK
    apply hK4
    refine rF ?_ fun K h=>by simp [go_sem,hw];exact h
    refine ⟨(i+1,j+11,j+310),?_,?_,?_⟩
    .dsimp only;omega
    .dsimp only;omega
    refine Weaker.fw 1 1 ?_ ?_
    .simp [go_sem,Y8_ hx]
    simp [go_sem,Y8_ hx,i9,Y9_,ht12,hm12,take_take,g9]
   have hlI:¬ (12:Int)<(l.length:Nat):=by omega
   have hl2:(0:Int)<=(l.length:Nat):=by omega
   have hm12:True:=trivial
   have ht12:l.take 12=l:=take_of_length_le hl
   simp [go_sem,hl,hlI,hl2,g9]
   refine ⟨by omega,?_⟩
   refine ⟨by omega,?_⟩
   apply hK
   apply hK4
   refine rF ?_ fun K h=>by simp [go_sem,hw];exact h
   refine ⟨(i+1,j+11,j+310),?_,?_,?_⟩
   .dsimp only;omega
   .dsimp only;omega
   refine Weaker.fw 1 1 ?_ ?_
   .simp [go_sem,Y8_ hx]
   simp [go_sem,Y8_ hx,i9,Y9_,ht12,hm12,take_take,g9]
  .have h1I:(6:Int)<(t.ths.length:Nat):=by omega
   simp [go_sem,h1,h1I]
   apply hK
   refine cK (fun h=>?_) fun h=>?_
   .simp at h
   have hla:True:=trivial
   have g10:¬ m=0/\¬ 0=m/\¬ m=1/\¬ 1=m/\¬ m=2/\¬ 2=m/\¬ m=3/\¬ 3=m/\¬ m=j+302/\¬ j+302=m/\¬ m=j+308/\¬ j+308=m/\¬ m=j+309/\¬ j+309=m/\¬ m=j+310/\¬ j+310=m:=by and_intros<;>omega
   apply A6
   refine Weaker.fy 1 1 ?_ ?_<;>simp [go_sem,hla,g10]
  simp [go_sem,h1]
  apply hK
  refine cK (fun h=>?_) fun h=>?_
  .simp at h
  have hla:=zX1 (l:=t.ths) (by omega)
  have g11:¬ m=0/\¬ 0=m/\¬ m=1/\¬ 1=m/\¬ m=2/\¬ 2=m/\¬ m=3/\¬ 3=m/\¬ m=j+302/\¬ j+302=m/\¬ m=j+308/\¬ j+308=m/\¬ m=j+309/\¬ j+309=m/\¬ m=j+310/\¬ j+310=m:=by and_intros<;>omega
  apply A6
  refine Weaker.fy 1 1 ?_ ?_<;>simp [go_sem,hla,g11]
 skip
 refine dK 9 [[],[0],[],[2],[],[4],[4,5],[4,5,6],[2,3,4,5,6,7],[0,1,2,3,4,5,6,7,8],[0,1,2,3,4,5,6,7,8,9],[0,1,2,3,4,5,6,7,8,9,10]] fun K hK=>?_
 first|dsimp only [List.take,List.drop]|dsimp [List.take,List.drop]
 rcases Nat.lt_or_ge 50 t.asks.length with hl|hl
 .have hlI:(50:Int)<(t.asks.length:Nat):=by omega
  have hl2:(50:Int)<=(t.asks.length:Nat):=by omega
  have hl3:50<=t.asks.length:=by omega
  have ht50:True:=trivial
  have hm50:50<=min 50 t.asks.length:=by omega
  simp [go_sem,hl,hlI,hl2,hl3]
  apply hK
  refine rG ?_
  refine A4 ?_
  simp [go_sem,zSr,ht50,hm50,take_take]
 have hlI:¬ (50:Int)<(t.asks.length:Nat):=by omega
 have hl2:(0:Int)<=(t.asks.length:Nat):=by omega
 have hm50:True:=trivial
 have ht50:t.asks.take 50=t.asks:=take_of_length_le hl
 simp [go_sem,hl,hlI,hl2]
 refine ⟨by omega,?_⟩
 apply hK
 refine rG ?_
 refine A4 ?_
 simp [go_sem,zSr,ht50,hm50,take_take]
theorem zIn:ownKnob Tryz.prog.godebug=none:=by kernel_rfl
theorem zIo:laidOutB Tryz.prog=true:=by kernel_rfl
theorem ImpAs.to {P : Program} {t : TypeId} {α β : Type} {ok : α → Prop} {f : α → List V} {ok' : β → Prop} {f' : β → List V} (φ : α → β) (h : ImpAs P t ok f) (hok : ∀ a, ok a → ok' (φ a)) (hs : ∀ a, ok a → SeenAll (f a) (f' (φ a))) (hnl : ∀ b, NLs (f' b))
    (hone:∀ b,(f' b).all V.one=true) (hlen:∀ b,(f' b).length=P.cellsOf t):ImpAs P t ok' f' where
  nl:=hnl
  one b _:=hone b
  len b _:=hlen b
  imp hr:=by
    obtain ⟨a,ha,hv⟩:=h.imp hr
    exact ⟨φ a,hok a ha,(hs a ha).rels hv⟩
theorem XA_ {P : Program} {t e : TypeId} {α : Type} {ok : α → Prop} {f : α → List V} {sz : Nat} (el : α → V) (ht : P.underlying t = some (.slice e)) (hc : P.cellsOf t = 1) (hsz : P.cellsOf e = sz) (hpos : 0 < sz) (hel : ∀ a, (el a).cells = f a) (hnl : ∀ a, NLs (el a).cells)
    (h:ImpAs P e ok f):ImpAs P t (fun l:List α=>l.length<=maxLen/\∀ a∈l,ok a) fun l=>[V.ro sz (l.map el)] :=
  ImpAs.to (fun o:Option (List α)=>o.getD []) (zI1 el ht hc hsz hpos (fun a _=>hel a) hnl h)
    (fun o ho=>by cases o with|none=>exact ⟨Nat.zero_le _,fun a ha=>absurd ha (not_mem_nil)⟩|some l=>exact ho l rfl)
    (fun o ho=>.cons (zFo sz el o) .nil)
    (fun l=>.cons (.ro fun v hv=>by obtain ⟨a,_,rfl⟩:=List.mem_map.1 hv;exact hnl a) .nil) (fun l=>rfl) (fun l=>hc.symm)
theorem iI:ImpAs Tryz.prog 3 (fun n:Int=>(Lit.int .i64 n).wf=true) fun n=>[.val (.int .i64 n)]:=zA8 Tryz.underlying3 (by kernel_rfl)
theorem iB:ImpAs Tryz.prog 4 (fun _:Bool=>True) fun b=>[.val (.bool b)]:=zCk Tryz.underlying4 (by kernel_rfl)
theorem iU:ImpAs Tryz.prog 54 (fun n:Int=>(Lit.int .u64 n).wf=true) fun n=>[.val (.int .u64 n)]:=zA8 Tryz.underlying54 (by kernel_rfl)
theorem zIp:ImpAs Tryz.prog 59 (fun p:Bool × Int=>True/\(Lit.int .u64 p.2).wf=true) fun p=>[.val (.bool p.1)]++[.val (.int .u64 p.2)] :=
 Y8 (tot:=2) Tryz.underlying59 (by kernel_rfl) (G7 rfl (o':=1) (by kernel_rfl) (zCk Tryz.underlying4 (by kernel_rfl)) (o7 rfl (by kernel_rfl) (zA8 Tryz.underlying54 (by kernel_rfl))))
theorem zX3:ImpAs Tryz.prog 163 (fun _:Atm=>True) Atm.cs :=
 ImpAs.to (fun p:Int × Int × Int=>⟨p.1,p.2.1,p.2.2⟩)
  (Y8 (tot:=3) Tryz.underlying163 (by kernel_rfl) (G7 rfl (o':=1) (by kernel_rfl) iI (G7 rfl (o':=2) (by kernel_rfl) iI (o7 rfl (by kernel_rfl) iU))))
  (fun _ _=>trivial) (fun p _=>SeenAll.refl _) zCt (fun _=>rfl) (fun _=>by kernel_rfl)
def zX4 (x:Ini):Prop:=x.name.size<=9223372036854775807
theorem zX5:ImpAs Tryz.prog 56 zX4 Ini.cs :=
 ImpAs.to (fun p:ByteArray × Int=>⟨p.1,p.2⟩)
  (Y8 (tot:=2) Tryz.underlying56 (by kernel_rfl) (G7 rfl (o':=1) (by kernel_rfl) (zFl Tryz.underlying9 (by kernel_rfl)) (o7 rfl (by kernel_rfl) iU)))
  (fun p h=>h.1) (fun p _=>SeenAll.refl _) zIb (fun _=>rfl) (fun _=>by kernel_rfl)
theorem zPe:ImpAs Tryz.prog 22 (fun l:List Ini=>l.length<=maxLen/\∀ a∈l,zX4 a) fun l=>[V.ro 2 (Z1 l)]:=XA_ Wp_ Tryz.underlying22 (by kernel_rfl) (by kernel_rfl) (by omega) (fun _=>rfl) zIb zX5
theorem zPf:ImpAs Tryz.prog 24 (fun l:List Atm=>l.length<=maxLen/\∀ a∈l,True) fun l=>[V.ro 3 (W0_ l)]:=XA_ y4 Tryz.underlying24 (by kernel_rfl) (by kernel_rfl) (by omega) (fun _=>rfl) zCt zX3
def zfj (t:Tst):Prop:=∀ l∈t.locs,zX4 l
@[go_sem] theorem zmr:TI.zeroV ⟨.array 16 68,16,32,[.int .u16 0,.int .u16 0,.int .u16 0,.int .u16 0,.int .u16 0,.int .u16 0,.int .u16 0,.int .u16 0,.int .u16 0,.int .u16 0,.int .u16 0,.int .u16 0,.int .u16 0,.int .u16 0,.int .u16 0,.int .u16 0]⟩=.agg (B6 fun _ _=>false):=Eq.trans rfl rfl
theorem zD5 (n:Int):Pf Tryz.prog 106 [.val (.int .i64 n)] (.val (.int .u16 (F3 fun i=>decide ((i:Int)=n)))):=by
 refine Pf.of_fn (.cons (.val _) .nil) (.val _) ?_
 by_cases h0:n<0
 .refine B7 T_ok func106 rfl rfl ntmps106 rfl (by simp) ?_
  refine rG ?_
  refine A3 fun K1 hK1=>?_
  refine rG ?_ fun K h=>by simp [go_sem,h0];exact h
  refine QW_ rfl (fun h=>?_) (fun h=>by simp at h)
  refine rK fun K hK=>?_
  simp [go_sem]
  refine hK _ (zH7 ⟨.inr rfl,?_⟩)
  simp [go_sem]
  rw [F2.2 fun i hi=>decide_eq_false (by omega)];rfl
 refine B7 T_ok func106 rfl rfl ntmps106 rfl (by simp) ?_
 refine rG ?_
 refine A3 fun K1 hK1=>?_
 refine rG ?_ fun K h=>by simp [go_sem,h0];exact h
 refine cK (fun h=>?_) fun h=>?_
 .simp at h
  refine rG ?_
  refine A4 ?_
  simp [go_sem]
  rw [F2.2 fun i hi=>decide_eq_false (by omega)];rfl
 simp at h
 have g12:n<16/\0<=n:=by and_intros<;>omega
 apply A1
 apply hK1
 refine rG ?_ fun K h9=>by simp [go_sem,h,g12];exact h9
 refine A4 ?_
 simp [go_sem]
 rw [Xm_ (by omega)]
 exact congrArg Nat.cast (N0 fun i hi=>by rw [Bool.eq_iff_iff,beq_iff_eq,decide_eq_true_eq];omega)
theorem M4 (p q:Nat->Nat->Bool):Pf Tryz.prog 43 [.agg (B6 p),.agg (B6 q)] (.agg (B6 fun a b=>p a b&&q a b)):=by
 refine Pf.of_fn (.cons (.agg (D9 p)) (.cons (.agg (D9 q)) .nil)) (.agg (D9 _)) ?_
 refine B7 T_ok func43 rfl rfl ntmps43 rfl (by simp) ?_
 refine rG ?_
 refine A3 fun K1 hK1=>?_
 refine rG ?_
 apply A0
 refine A9 (α:=Nat × Nat) (fun a=>⟨19,[(2,.ptr 0 0 0),(3,.ptr 1 0 0),(4,.ptr 2 0 0),(6,.val (.int .i64 a.1))],[(0,.rows 16 [.agg (B6 fun x b=>if x<a.1 then p x b&&q x b else p x b)]),(1,.rows 16 [.agg (B6 q)]),(2,.rows 16 [.agg (B6 fun _ _=>false)])],a.2+3⟩) (fun a=>a.1<=16) (fun a=>16-a.1) (0,0) ?_ ?_ ?_
 .dsimp only;omega
 .exact Weaker.of (by simp [Sl.get]) (by simp) (by simp [Sl.look])
 rintro ⟨i,j⟩ hi
 dsimp only at hi ⊢
 refine rG ?_
 refine A3 fun K2 hK2=>?_
 refine cJ (fun h=>?_) fun h=>?_
 .simp at h
  obtain rfl:i=16:=by omega
  apply A6
  apply hK1
  refine rG ?_
  refine A4 ?_
  simp [go_sem]
  exact F6 fun a ha b _=>by simp [ha]
 simp at h
 have h':i<16:=by omega
 have hw:=wI i
 apply A1
 apply hK2
 refine A3 fun K3 hK3=>?_
 apply A0
 refine rG ?_
 refine dE 6 [[],[0],[0,1],[],[3],[3,4],[0,1,2,3,4,5],[0,1,2,3,4,5,6],[0,1,2,3,4,5,6,7]] fun K hK=>?_
 first|dsimp only [List.take,List.drop]|dsimp [List.take,List.drop]
 simp [go_sem,h,h',u5]
 refine ⟨by omega,?_⟩
 apply hK
 apply hK3
 refine rF ?_ fun K h=>by simp [go_sem,hw];exact h
 refine ⟨(i+1,j+6),?_,?_,?_⟩
 .dsimp only;omega
 .dsimp only;omega
 refine Weaker.of ?_ ?_ ?_
 .simp [Sl.get]
 .first|(simp;done)|(simp;omega)
 simp [Sl.look]
 refine F6 fun a _ b _=>?_
 by_cases e:a=i
 .subst e;simp
 have:a<i+1↔a<i:=by omega
 simp [e,this]
theorem zFs (p q:Nat->Nat->Bool):Pf Tryz.prog 99 [.agg (B6 p),.agg (B6 q)] (.agg (B6 fun a b=>p a b||q a b)):=by
 refine Pf.of_fn (.cons (.agg (D9 p)) (.cons (.agg (D9 q)) .nil)) (.agg (D9 _)) ?_
 refine B7 T_ok func99 rfl rfl ntmps99 rfl (by simp) ?_
 refine rG ?_
 refine A3 fun K1 hK1=>?_
 refine rG ?_
 apply A0
 refine A9 (α:=Nat × Nat) (fun a=>⟨19,[(2,.ptr 0 0 0),(3,.ptr 1 0 0),(4,.ptr 2 0 0),(6,.val (.int .i64 a.1))],[(0,.rows 16 [.agg (B6 fun x b=>if x<a.1 then p x b||q x b else p x b)]),(1,.rows 16 [.agg (B6 q)]),(2,.rows 16 [.agg (B6 fun _ _=>false)])],a.2+3⟩) (fun a=>a.1<=16) (fun a=>16-a.1) (0,0) ?_ ?_ ?_
 .dsimp only;omega
 .exact Weaker.of (by simp [Sl.get]) (by simp) (by simp [Sl.look])
 rintro ⟨i,j⟩ hi
 dsimp only at hi ⊢
 refine rG ?_
 refine A3 fun K2 hK2=>?_
 refine cJ (fun h=>?_) fun h=>?_
 .simp at h
  obtain rfl:i=16:=by omega
  apply A6
  apply hK1
  refine rG ?_
  refine A4 ?_
  simp [go_sem]
  exact F6 fun a ha b _=>by simp [ha]
 simp at h
 have h':i<16:=by omega
 have hw:=wI i
 apply A1
 apply hK2
 refine A3 fun K3 hK3=>?_
 apply A0
 refine rG ?_
 refine dE 6 [[],[0],[0,1],[],[3],[3,4],[0,1,2,3,4,5],[0,1,2,3,4,5,6],[0,1,2,3,4,5,6,7]] fun K hK=>?_
 first|dsimp only [List.take,List.drop]|dsimp [List.take,List.drop]
 simp [go_sem,h,h',Y0]
 refine ⟨by omega,?_⟩
 apply hK
 apply hK3
 refine rF ?_ fun K h=>by simp [go_sem,hw];exact h
 refine ⟨(i+1,j+6),?_,?_,?_⟩
 .dsimp only;omega
 .dsimp only;omega
 refine Weaker.of ?_ ?_ ?_
 .simp [Sl.get]
 .first|(simp;done)|(simp;omega)
 simp [Sl.look]
 refine F6 fun a _ b _=>?_
 by_cases e:a=i
 .subst e;simp
 have:a<i+1↔a<i:=by omega
 simp [e,this]
theorem zIq (p q:Nat->Nat->Bool):Pf Tryz.prog 41 [.agg (B6 p),.agg (B6 q)] (.agg (B6 fun a b=>p a b&&!q a b)):=by
 refine Pf.of_fn (.cons (.agg (D9 p)) (.cons (.agg (D9 q)) .nil)) (.agg (D9 _)) ?_
 refine B7 T_ok func41 rfl rfl ntmps41 rfl (by simp) ?_
 refine rG ?_
 refine A3 fun K1 hK1=>?_
 refine rG ?_
 apply A0
 refine A9 (α:=Nat × Nat) (fun a=>⟨19,[(2,.ptr 0 0 0),(3,.ptr 1 0 0),(4,.ptr 2 0 0),(6,.val (.int .i64 a.1))],[(0,.rows 16 [.agg (B6 fun x b=>if x<a.1 then p x b&&!q x b else p x b)]),(1,.rows 16 [.agg (B6 q)]),(2,.rows 16 [.agg (B6 fun _ _=>false)])],a.2+3⟩) (fun a=>a.1<=16) (fun a=>16-a.1) (0,0) ?_ ?_ ?_
 .dsimp only;omega
 .exact Weaker.of (by simp [Sl.get]) (by simp) (by simp [Sl.look])
 rintro ⟨i,j⟩ hi
 dsimp only at hi ⊢
 refine rG ?_
 refine A3 fun K2 hK2=>?_
 refine cJ (fun h=>?_) fun h=>?_
 .simp at h
  obtain rfl:i=16:=by omega
  apply A6
  apply hK1
  refine rG ?_
  refine A4 ?_
  simp [go_sem]
  exact F6 fun a ha b _=>by simp [ha]
 simp at h
 have h':i<16:=by omega
 have hw:=wI i
 apply A1
 apply hK2
 refine A3 fun K3 hK3=>?_
 apply A0
 refine rG ?_
 refine dE 6 [[],[0],[0,1],[],[3],[3,4],[0,1,2,3,4,5],[0,1,2,3,4,5,6],[0,1,2,3,4,5,6,7]] fun K hK=>?_
 first|dsimp only [List.take,List.drop]|dsimp [List.take,List.drop]
 simp [go_sem,h,h',u5,Qc_]
 refine ⟨by omega,?_⟩
 apply hK
 apply hK3
 refine rF ?_ fun K h=>by simp [go_sem,hw];exact h
 refine ⟨(i+1,j+6),?_,?_,?_⟩
 .dsimp only;omega
 .dsimp only;omega
 refine Weaker.of ?_ ?_ ?_
 .simp [Sl.get]
 .first|(simp;done)|(simp;omega)
 simp [Sl.look]
 refine F6 fun a _ b _=>?_
 by_cases e:a=i
 .subst e;simp
 have:a<i+1↔a<i:=by omega
 simp [e,this]
theorem j1 (p:Nat->Nat->Bool) (a b:Int):Pf Tryz.prog 103 [.agg (B6 p),.val (.int .i64 a),.val (.int .i64 b)] (.agg (B6 fun x y=>p x y||(decide ((x:Int)=a)&&decide ((y:Int)=b)))):=by
 refine Pf.of_fn (.cons (.agg (D9 p)) (.cons (.val _) (.cons (.val _) .nil))) (.agg (D9 _)) ?_
 refine B7 T_ok func103 rfl rfl ntmps103 rfl (by simp) ?_
 refine rG ?_
 refine A3 fun K1 hK1=>?_
 refine rK fun K hK=>?_
 simp [go_sem]
 refine A2 (zD5 _) ?_
 simp [go_sem]
 apply hK
 refine cJ (fun h=>?_) fun h=>?_
 .simp at h
  apply A1
  apply hK1
  refine rG ?_
  refine A4 ?_
  simp [go_sem]
  refine F6 fun x hx y _=>?_
  have:=F2.1 h x hx
  simp only [decide_eq_false_iff_not] at this
  simp [this]
 simp at h
 obtain ⟨n,rfl,hn⟩:=zAd h
 have g13:(n:Int)<16/\n<=15:=by and_intros<;>omega
 refine dE 5 [[],[0],[0,1],[],[3],[0,1,2,3,4],[0,1,2,3,4,5],[0,1,2,3,4,5,6]] fun K hK=>?_
 first|dsimp only [List.take,List.drop]|dsimp [List.take,List.drop]
 simp [go_sem,hn,g13]
 refine A5 (zD5 _) ?_
 simp [go_sem,hn,g13,Y0]
 apply hK
 apply hK1
 refine rG ?_
 refine A4 ?_
 simp [go_sem]
 refine F6 fun x _ y _=>?_
 by_cases e:x=n
 .subst e;simp
 simp [e];omega
theorem y6 (p:Nat->Nat->Bool) (n:Nat) (hn:n<16) (b:Int):Pf Tryz.prog 48 [.agg (B6 p),.val (.int .i64 n),.val (.int .i64 b)] (.val (.bool (decide (0<=b/\b<16)&&p n b.toNat))):=by
 refine Pf.of_fn (.cons (.agg (D9 p)) (.cons (.val _) (.cons (.val _) .nil))) (.val _) ?_
 have hne:=Qd_ hn
 have g14:(n:Int)<16/\n<=15:=by and_intros<;>omega
 refine B7 T_ok func48 rfl rfl ntmps48 rfl (by simp) ?_
 refine rG ?_
 refine dK 9 [[],[0],[0,1],[0,1,2],[0,1,2,3],[0,1,2,3,4],[0,1,2,3,4,5],[0,1,2,3],[0,1,2,3,7],[0,1,2,3,4,5,6,7,8],[0,1,2,3,4,5,6,7,8,9],[0,1,2,3,4,5,6,7,8,9,10],[0,1,2,3,4,5,6,7,8,9,10,11]] fun K hK=>?_
 first|dsimp only [List.take,List.drop]|dsimp [List.take,List.drop]
 simp [go_sem]
 refine A5 (zD5 _) ?_
 simp [go_sem,hn,g14,hne]
 refine A5 (zD5 _) ?_
 simp [go_sem,hn,hne,u5]
 apply hK
 refine A4 ?_
 simp [go_sem]
 exact zAe _ _
theorem Xu_ (p:Nat->Nat->Bool):Pf Tryz.prog 226 [.agg (B6 p)] (.agg (B6 fun a b=>p b a)):=by
 refine Pf.of_fn (.cons (.agg (D9 p)) .nil) (.agg (D9 _)) ?_
 refine B7 T_ok func226 rfl rfl ntmps226 rfl (by simp) ?_
 refine rG ?_
 refine rG ?_
 refine A3 fun K1 hK1=>?_
 refine rG ?_
 apply A0
 refine A9 (α:=Nat × Nat) (fun a=>⟨29,[(1,.ptr 0 0 0),(2,.ptr 1 0 0),(3,.ptr 2 0 0),(6,.val (.int .i64 a.1))],[(0,.rows 16 [.agg (B6 p)]),(1,.rows 16 [.agg (B6 fun _ _=>false)]),(2,.rows 16 [.agg (B6 fun b x=>decide (x<a.1)&&p x b)])],a.2+3⟩) (fun a=>a.1<=16) (fun a=>16-a.1) (0,0) ?_ ?_ ?_
 .dsimp only;omega
 .exact Weaker.of (by simp [Sl.get]) (by simp) (by simp [Sl.look])
 rintro ⟨i,j⟩ hi
 dsimp only at hi ⊢
 refine rG ?_
 refine A3 fun K2 hK2=>?_
 refine cJ (fun h=>?_) fun h=>?_
 .simp at h
  obtain rfl:i=16:=by omega
  apply A6
  apply hK1
  refine rG ?_
  refine A4 ?_
  simp [go_sem]
  exact F6 fun a _ b hb=>by simp [hb]
 simp at h
 have hI:=h
 clear h
 have h':i<16:=by omega
 have hL:i<=15:=by omega
 have hw:=wI i
 apply A1
 apply hK2
 refine A3 fun K3 hK3=>?_
 apply A0
 refine rG ?_
 refine rG ?_ fun K h=>by simp [go_sem,hI,h',hL];exact h
 apply A0
 refine A9 (α:=(Nat->Bool) × Nat) (fun a=>⟨29,[(1,.ptr 0 0 0),(2,.ptr 1 0 0),(3,.ptr 2 0 0),(4,.val (.int .i64 i)),(5,.val (.int .u16 (F3 a.1))),(6,.val (.int .i64 i))],[(0,.rows 16 [.agg (B6 p)]),(1,.rows 16 [.agg (B6 fun _ _=>false)]),(2,.rows 16 [.agg (B6 fun b x=>(decide (x<i)&&p x b)||(x==i&&p i b&&!a.1 b))])],a.2+3⟩) (fun a=>∀ b,a.1 b=true->p i b=true) (fun a=>F3 a.1) (p i,j) ?_ ?_ ?_
 .exact fun b hb=>hb
 .exact Weaker.of (by simp [Sl.get]) (by simp) (by simp [Sl.look];exact F6 fun b _ x _=>by cases p i b<;>simp)
 rintro ⟨s,j2⟩ hq
 dsimp only at hq ⊢
 refine A3 fun K4 hK4=>?_
 refine rG ?_
 refine cJ (fun h=>?_) fun h=>?_
 .simp at h
  apply A6
  apply hK3
  refine rF ?_ fun K h=>by simp [go_sem,hw];exact h
  refine ⟨(i+1,j2),?_,?_,?_⟩
  .dsimp only;omega
  .dsimp only;omega
  refine Weaker.of ?_ ?_ ?_
  .simp [Sl.get]
  .first|(simp;done)|(simp;omega)
  simp [Sl.look]
  refine F6 fun b hb x _=>?_
  have hz:=F2.1 h b hb
  by_cases e:x=i
  .subst e;simp [hz]
  have:x<i+1↔x<i:=by omega
  have e2:(x==i)=false:=by simp [e]
  simp [e,e2,this]
 simp at h
 obtain ⟨hf,hfq⟩:=zCo h
 have hp1:=Xn_ h
 have g15:((Za_ (F3 s):Nat):Int)<16/\Za_ (F3 s)<=15/\((Za_ (F3 s):Nat):Int)<=15:=by and_intros<;>omega
 apply A1
 apply hK4
 refine A3 fun K5 hK5=>?_
 apply A0
 refine dE 7 [[],[0],[0,1],[0,1,2],[0,1,2,3],[],[5],[0,1,2,3,4,5,6],[0,1,2,3,4,5,6,7],[0,1,2,3,4,5,6,7,8]] fun K hK=>?_
 first|dsimp only [List.take,List.drop]|dsimp [List.take,List.drop]
 simp [go_sem]
 refine A5 (zCq _ (by omega) (by have:=U5 s;omega)) ?_
 simp [go_sem,hf,g15,hI,Xm_ h',Y0]
 apply hK
 apply hK5
 refine rF ?_ fun K h9=>by simp [go_sem,hp1,Zb_ h];exact h9
 refine ⟨((fun b=>s b&&b != Za_ (F3 s)),j2+7),?_,?_,?_⟩
 .dsimp only
  intro b hb
  simp at hb
  exact hq b hb.1
 .dsimp only
  rw [<-Zb_ h]
  exact zAb _ (by omega)
 refine Weaker.of ?_ ?_ ?_
 .simp [Sl.get]
 .first|(simp;done)|(simp;omega)
 simp [Sl.look]
 refine F6 fun b _ x _=>?_
 by_cases e:b=Za_ (F3 s)
 .subst e;simp [hfq,hq _ hfq]
 have e2:(b != Za_ (F3 s))=true:=by simp [e]
 simp [e,e2]
theorem zAl (p q:Nat->Nat->Bool):Pf Tryz.prog 100 [.agg (B6 p),.agg (B6 q)] (.agg (B6 (th p q))):=by
 refine Pf.of_fn (.cons (.agg (D9 p)) (.cons (.agg (D9 q)) .nil)) (.agg (D9 _)) ?_
 refine B7 T_ok func100 rfl rfl ntmps100 rfl (by simp) ?_
 refine rG ?_
 refine rG ?_
 refine A3 fun K1 hK1=>?_
 refine rG ?_
 apply A0
 refine A9 (α:=Nat × Nat) (fun a=>⟨32,[(2,.ptr 0 0 0),(3,.ptr 1 0 0),(4,.ptr 2 0 0),(5,.ptr 3 0 0),(8,.val (.int .i64 a.1))],[(0,.rows 16 [.agg (B6 p)]),(1,.rows 16 [.agg (B6 q)]),(2,.rows 16 [.agg (B6 fun _ _=>false)]),(3,.rows 16 [.agg (B6 fun x c=>decide (x<a.1)&&th p q x c)])],a.2+4⟩) (fun a=>a.1<=16) (fun a=>16-a.1) (0,0) ?_ ?_ ?_
 .dsimp only;omega
 .exact Weaker.of (by simp [Sl.get]) (by simp) (by simp [Sl.look])
 rintro ⟨i,j⟩ hi
 dsimp only at hi ⊢
 refine rG ?_
 refine A3 fun K2 hK2=>?_
 refine cJ (fun h=>?_) fun h=>?_
 .simp at h
  obtain rfl:i=16:=by omega
  apply A6
  apply hK1
  refine rG ?_
  refine A4 ?_
  simp [go_sem]
  exact F6 fun a ha b _=>by simp [ha]
 simp at h
 have hI:=h
 clear h
 have g16:i<16/\i<=15:=by and_intros<;>omega
 have hw:=wI i
 apply A1
 apply hK2
 refine A3 fun K3 hK3=>?_
 apply A0
 refine rG ?_
 refine rG ?_ fun K h=>by simp [go_sem,hI,g16];exact h
 apply A0
 refine A9 (α:=(Nat->Bool) × Nat) (fun a=>⟨32,[(2,.ptr 0 0 0),(3,.ptr 1 0 0),(4,.ptr 2 0 0),(5,.ptr 3 0 0),(6,.val (.int .i64 i)),(7,.val (.int .u16 (F3 a.1))),(8,.val (.int .i64 i))],[(0,.rows 16 [.agg (B6 p)]),(1,.rows 16 [.agg (B6 q)]),(2,.rows 16 [.agg (B6 fun _ _=>false)]),(3,.rows 16 [.agg (B6 fun x c=>(decide (x<i)&&th p q x c)||(x==i&&m3 fun b=>p i b&&!a.1 b&&q b c))])],a.2+4⟩) (fun a=>∀ b,a.1 b=true->p i b=true) (fun a=>F3 a.1) (p i,j) ?_ ?_ ?_
 .exact fun b hb=>hb
 .exact Weaker.of (by simp [Sl.get]) (by simp) (by simp [Sl.look])
 rintro ⟨s,j2⟩ hq
 dsimp only at hq ⊢
 refine A3 fun K4 hK4=>?_
 refine rG ?_
 refine cJ (fun h=>?_) fun h=>?_
 .simp at h
  apply A6
  apply hK3
  refine rF ?_ fun K h=>by simp [go_sem,hw];exact h
  refine ⟨(i+1,j2),?_,?_,?_⟩
  .dsimp only;omega
  .dsimp only;omega
  refine Weaker.of ?_ ?_ ?_
  .simp [Sl.get]
  .first|(simp;done)|(simp;omega)
  simp [Sl.look]
  refine F6 fun x _ c _=>?_
  by_cases e:x=i
  .subst e
   simp only [Nat.lt_irrefl,decide_false,Bool.false_and,Bool.false_or,beq_self_eq_true,Bool.true_and,Nat.lt_succ_self,decide_true]
   exact zFn fun b hb=>by simp [F2.1 h b hb]
  have:x<i+1↔x<i:=by omega
  have e2:(x==i)=false:=by simp [e]
  simp [e,e2,this]
 simp at h
 obtain ⟨hf,hfq⟩:=zCo h
 have hp1:=Xn_ h
 have g17:((Za_ (F3 s):Nat):Int)<16/\Za_ (F3 s)<=15/\((Za_ (F3 s):Nat):Int)<=15:=by and_intros<;>omega
 apply A1
 apply hK4
 refine A3 fun K5 hK5=>?_
 apply A0
 refine dE 8 [[],[0],[0,1],[],[3],[3,4],[3,4,5],[3,4,5,6],[0,1,2,3,4,5,6,7],[0,1,2,3,4,5,6,7,8],[0,1,2,3,4,5,6,7,8,9]] fun K hK=>?_
 first|dsimp only [List.take,List.drop]|dsimp [List.take,List.drop]
 simp [go_sem,hI,g16]
 refine A5 (zCq _ (by omega) (by have:=U5 s;omega)) ?_
 simp [go_sem,hf,g17,hI,g16,Y0]
 apply hK
 apply hK5
 refine rF ?_ fun K h9=>by simp [go_sem,hp1,Zb_ h];exact h9
 refine ⟨((fun b=>s b&&b != Za_ (F3 s)),j2+8),?_,?_,?_⟩
 .dsimp only
  intro b hb
  simp at hb
  exact hq b hb.1
 .dsimp only
  rw [<-Zb_ h]
  exact zAb _ (by omega)
 refine Weaker.of ?_ ?_ ?_
 .simp [Sl.get]
 .first|(simp;done)|(simp;omega)
 simp only [Sl.look,mem_cons,not_mem_nil,or_false,forall_eq_or_imp,forall_eq,reduceIte,Nat.reduceEqDiff]
 refine ⟨trivial,trivial,trivial,?_⟩
 congr 4
 refine F6 fun x _ c _=>?_
 by_cases e:x=i
 .subst e
  have hd:=zOx (p:=p x) (s:=s) (q:=fun b=>q b c) hf (hq _ hfq) hfq
  simp only [if_true,Nat.lt_irrefl,decide_false,Bool.false_and,Bool.false_or,beq_self_eq_true,Bool.true_and]
  exact hd.symm
 have e2:(x==i)=false:=by simp [e]
 simp [e,e2]
theorem zIr (p:Nat->Nat->Bool):Pf Tryz.prog 105 [.agg (B6 p)] (.agg (B6 (cl p))):=by
 refine Pf.of_fn (.cons (.agg (D9 p)) .nil) (.agg (D9 _)) ?_
 refine B7 T_ok func105 rfl rfl ntmps105 rfl (by simp) ?_
 refine rG ?_
 refine A3 fun K1 hK1=>?_
 refine rG ?_
 apply A0
 refine A9 (α:=Nat × Nat) (fun a=>⟨29,[(1,.ptr 0 0 0),(2,.ptr 1 0 0),(5,.val (.int .i64 a.1))],[(0,.rows 16 [.agg (B6 (wN p a.1))]),(1,.rows 16 [.agg (B6 fun _ _=>false)])],a.2+2⟩) (fun a=>a.1<=16) (fun a=>16-a.1) (0,0) ?_ ?_ ?_
 .dsimp only;omega
 .exact Weaker.of (by simp [Sl.get]) (by simp) (by simp [Sl.look];rfl)
 rintro ⟨i,j⟩ hi
 dsimp only at hi ⊢
 refine rG ?_
 refine A3 fun K2 hK2=>?_
 refine cJ (fun h=>?_) fun h=>?_
 .simp at h
  obtain rfl:i=16:=by omega
  apply A6
  apply hK1
  refine rG ?_
  refine A4 ?_
  simp [go_sem]
  rfl
 simp at h
 have hI:=h
 clear h
 have h':i<16:=by omega
 have hL:i<=15:=by omega
 have hw:=wI i
 apply A1
 apply hK2
 refine A3 fun K3 hK3=>?_
 apply A0
 refine rG ?_
 refine rG ?_
 apply A0
 refine A9 (α:=Nat × Nat) (fun a=>⟨29,[(1,.ptr 0 0 0),(2,.ptr 1 0 0),(3,.val (.int .i64 i)),(5,.val (.int .i64 i)),(8,.val (.int .i64 a.1))],[(0,.rows 16 [.agg (B6 fun x b=>if x<a.1 then wN p i x b||(wN p i x i&&wN p i i b) else wN p i x b)]),(1,.rows 16 [.agg (B6 fun _ _=>false)])],a.2+2⟩) (fun a=>a.1<=16) (fun a=>16-a.1) (0,j) ?_ ?_ ?_
 .dsimp only;omega
 .exact Weaker.of (by simp [Sl.get]) (by simp) (by simp [Sl.look])
 rintro ⟨y,j2⟩ hy
 dsimp only at hy ⊢
 refine rG ?_
 refine A3 fun K4 hK4=>?_
 refine cJ (fun h=>?_) fun h=>?_
 .simp at h
  obtain rfl:y=16:=by omega
  apply A6
  apply hK3
  refine rF ?_ fun K h=>by simp [go_sem,hw];exact h
  refine ⟨(i+1,j2),?_,?_,?_⟩
  .dsimp only;omega
  .dsimp only;omega
  refine Weaker.of ?_ ?_ ?_
  .simp [Sl.get]
  .first|(simp;done)|(simp;omega)
  simp [Sl.look]
  exact F6 fun a ha b _=>by simp [ha,wN]
 simp at h
 have hyI:=h
 clear h
 have g18:y<16/\y<=15:=by and_intros<;>omega
 have hwy:=wI y
 apply A1
 apply hK4
 refine A3 fun K5 hK5=>?_
 apply A0
 refine rG ?_
 refine rG ?_ fun K h=>by simp [go_sem,hI,h',hL,hyI,g18,C7 h'];exact h
 refine cJ (fun h=>?_) fun h=>?_
 .have hc:wN p i y i=false:=by simpa using h
  apply A1
  apply hK5
  refine rF ?_ fun K h=>by simp [go_sem,hwy];exact h
  refine ⟨(y+1,j2),?_,?_,?_⟩
  .dsimp only;omega
  .dsimp only;omega
  refine Weaker.of ?_ ?_ ?_
  .simp [Sl.get]
  .first|(simp;done)|(simp;omega)
  simp [Sl.look]
  refine F6 fun x _ b _=>?_
  by_cases e:x=y
  .subst e;simp [hc]
  have:x<y+1↔x<y:=by omega
  simp [this]
 have hc:wN p i y i=true:=by simpa using h
 refine dE 6 [[],[0],[0,1],[],[3],[3,4],[0,1,2,3,4,5],[0,1,2,3,4,5,6],[0,1,2,3,4,5,6,7]] fun K hK=>?_
 first|dsimp only [List.take,List.drop]|dsimp [List.take,List.drop]
 simp [go_sem,hI,h',hL,hyI,g18,Y0]
 apply hK
 apply hK5
 refine rF ?_ fun K h=>by simp [go_sem,hwy];exact h
 refine ⟨(y+1,j2+6),?_,?_,?_⟩
 .dsimp only;omega
 .dsimp only;omega
 refine Weaker.of ?_ ?_ ?_
 .simp [Sl.get]
 .first|(simp;done)|(simp;omega)
 simp [Sl.look]
 refine F6 fun x _ b _=>?_
 by_cases e:x=y
 .subst e
  by_cases e2:i<x
  .simp [e2,hc]
   cases wN p i x b<;>cases wN p i i b<;>simp
  simp [e2,hc]
 have:x<y+1↔x<y:=by omega
 simp [e,this]
theorem Qm_ (p:Nat->Nat->Bool):Pf Tryz.prog 46 [.agg (B6 p)] (.val (.bool (Zc_ p))):=by
 refine Pf.of_fn (.cons (.agg (D9 p)) .nil) (.val _) ?_
 refine B7 T_ok func46 rfl rfl ntmps46 rfl (by simp) ?_
 refine rG ?_
 refine A3 fun K1 hK1=>?_
 refine rK fun K hK=>?_
 simp [go_sem]
 refine A2 (zIr _) ?_
 try simp [go_sem]
 apply hK
 apply A0
 refine A9 (α:=Nat) (fun a=>⟨17,[(1,.ptr 0 0 0),(6,.agg (B6 (cl p))),(7,.val (.int .i64 a))],[(0,.rows 16 [.agg (B6 p)])],1⟩) (fun a=>a<=16/\∀ x,x<a->cl p x x=false) (fun a=>16-a) 0 ?_ ?_ ?_
 .exact ⟨by omega,fun x hx=>by omega⟩
 .exact Weaker.of (by simp [Sl.get]) (by simp) (by simp [Sl.look])
 rintro i ⟨hi,hn⟩
 try dsimp only
 refine rG ?_
 refine A3 fun K2 hK2=>?_
 refine cJ (fun h=>?_) fun h=>?_
 .simp at h
  obtain rfl:i=16:=by omega
  apply A6
  apply hK1
  refine rG ?_
  refine A4 ?_
  simp [go_sem]
  refine Bool.eq_false_iff.2 fun e=>?_
  obtain ⟨b,hb,hc⟩:=G2.1 e
  rw [hn b hb] at hc;cases hc
 simp at h
 have hI:=h
 clear h
 have h':i<16:=by omega
 have hL:i<=15:=by omega
 have hw:=wI i
 apply A1
 apply hK2
 refine A3 fun K3 hK3=>?_
 apply A0
 refine rG ?_ fun K h=>by simp [go_sem,hI,h',hL];exact h
 refine rG ?_ fun K h=>by simp [go_sem,hI,h',C7 h'];exact h
 refine cK (fun h=>?_) fun h=>?_
 .have hc:cl p i i=true:=by simpa using h
  refine rG ?_
  refine A4 ?_
  simp [go_sem]
  exact G2.2 ⟨i,h',hc⟩
 have hc:cl p i i=false:=by simpa using h
 apply A1
 apply hK3
 refine rF ?_ fun K h=>by simp [go_sem,hw];exact h
 refine ⟨i+1,?_,?_,?_⟩
 .refine ⟨by omega,fun x hx=>?_⟩
  by_cases e:x=i
  .subst e;exact hc
  exact hn x (by omega)
 .omega
 refine Weaker.of ?_ ?_ ?_
 .simp [Sl.get]
 .first|(simp;done)|(simp;omega)
 simp [Sl.look]
theorem H7 (f g:Nat->Bool):Pf Tryz.prog 42 [.val (.int .u16 (F3 f)),.val (.int .u16 (F3 g))] (.agg (B6 fun a b=>f a&&g b)):=by
 refine Pf.of_fn (.cons (.val _) (.cons (.val _) .nil)) (.agg (D9 _)) ?_
 refine B7 T_ok func42 rfl rfl ntmps42 rfl (by simp) ?_
 refine rG ?_
 refine rG ?_
 refine A3 fun K1 hK1=>?_
 refine rG ?_
 apply A0
 refine A9 (α:=Nat) (fun a=>⟨20,[(0,.val (.int .u16 (F3 f))),(1,.val (.int .u16 (F3 g))),(4,.ptr 0 0 0),(5,.ptr 1 0 0),(7,.val (.int .i64 a))],[(0,.rows 16 [.agg (B6 fun _ _=>false)]),(1,.rows 16 [.agg (B6 fun x b=>decide (x<a)&&f x&&g b)])],2⟩) (fun a=>a<=16) (fun a=>16-a) 0 ?_ ?_ ?_
 .omega
 .exact Weaker.of (by simp [Sl.get]) (by simp) (by simp [Sl.look])
 rintro i hi
 try dsimp only
 refine rG ?_
 refine A3 fun K2 hK2=>?_
 refine cJ (fun h=>?_) fun h=>?_
 .simp at h
  obtain rfl:i=16:=by omega
  apply A6
  apply hK1
  refine rG ?_
  refine A4 ?_
  simp [go_sem]
  exact F6 fun a ha b _=>by simp [ha]
 simp at h
 have hI:=h
 clear h
 have h':i<16:=by omega
 have hL:i<=15:=by omega
 have hw:=wI i
 apply A1
 apply hK2
 refine A3 fun K3 hK3=>?_
 apply A0
 refine rG ?_
 refine rG ?_ fun K h=>by simp [go_sem,hI,h',C7 h'];exact h
 refine cK (fun h=>?_) fun h=>?_
 .have hc:f i=true:=by simpa using h
  refine rF ?_ fun K h=>by simp [go_sem,hI,h',hL];exact h
  apply hK3
  refine rF ?_ fun K h=>by simp [go_sem,hw];exact h
  refine ⟨i+1,?_,?_,?_⟩
  .omega
  .omega
  refine Weaker.of ?_ ?_ ?_
  .simp [Sl.get]
  .first|(simp;done)|(simp;omega)
  simp [Sl.look]
  refine F6 fun x _ b _=>?_
  by_cases e:x=i
  .subst e;simp [hc]
  have:x<i+1↔x<i:=by omega
  simp [e,this]
 have hc:f i=false:=by simpa using h
 apply A1
 apply hK3
 refine rF ?_ fun K h=>by simp [go_sem,hw];exact h
 refine ⟨i+1,?_,?_,?_⟩
 .omega
 .omega
 refine Weaker.of ?_ ?_ ?_
 .simp [Sl.get]
 .first|(simp;done)|(simp;omega)
 simp [Sl.look]
 refine F6 fun x _ b _=>?_
 by_cases e:x=i
 .subst e;simp [hc]
 have:x<i+1↔x<i:=by omega
 simp [e,this]
theorem Xv_ (p:Nat->Nat->Bool):Pf Tryz.prog 45 [.agg (B6 p)] (.val (.int .i64 (Jt_ p 16))):=by
 refine Pf.of_fn (.cons (.agg (D9 p)) .nil) (.val _) ?_
 refine B7 T_ok func45 rfl rfl ntmps45 rfl (by simp) ?_
 refine rG ?_
 refine rG ?_
 refine A3 fun K1 hK1=>?_
 refine rG ?_
 apply A0
 refine A9 (α:=Nat) (fun a=>⟨17,[(1,.ptr 0 0 0),(3,.val (.int .i64 (Jt_ p a))),(6,.agg (B6 p)),(7,.val (.int .i64 a))],[(0,.rows 16 [.agg (B6 p)])],1⟩) (fun a=>a<=16) (fun a=>16-a) 0 ?_ ?_ ?_
 .omega
 .exact Weaker.of (by simp [Sl.get];rfl) (by simp) (by simp [Sl.look])
 rintro i hi
 try dsimp only
 refine rG ?_
 refine A3 fun K2 hK2=>?_
 refine cJ (fun h=>?_) fun h=>?_
 .simp at h
  obtain rfl:i=16:=by omega
  apply A6
  apply hK1
  refine rG ?_
  refine A4 ?_
  simp [go_sem]
 simp at h
 have hI:=h
 clear h
 have g19:i<16/\i<=15:=by and_intros<;>omega
 have hw:=wI i
 have hk:=zI7 p i
 have hm:=UC_ 16 _ (U5 (p i))
 have hw2:IntKind.i64.wrap (((Jt_ p i:Nat):Int)+((QZ_ (F3 (p i)):Nat):Int))=((Jt_ p (i+1):Nat):Int):=by rw [E4 (by omega) (by omega)];simp only [Jt_];omega
 apply A1
 apply hK2
 refine A3 fun K3 hK3=>?_
 apply A0
 refine rG ?_ fun K h=>by simp [go_sem,hI,g19];exact h
 refine rE fun K hK=>?_
 simp [go_sem]
 refine A2 (zCp _ (by have:=U5 (p i);omega)) ?_
 simp [go_sem,hw2]
 apply hK
 apply hK3
 refine rF ?_ fun K h=>by simp [go_sem,hw];exact h
 refine ⟨i+1,?_,?_,?_⟩
 .omega
 .omega
 refine Weaker.of ?_ ?_ ?_
 .simp [Sl.get]
 .first|(simp;done)|(simp;omega)
 simp [Sl.look]
@[go_sem] theorem zX6 (s:ByteArray):(s.toList=[])=(s.size=0):=by
 rw [ByteArray.toList_eq]
 obtain ⟨⟨x⟩⟩:=s
 cases x with
 | nil=>exact propext ⟨fun _=>rfl,fun _=>rfl⟩
 | cons a l=>exact propext ⟨fun h=>by simp at h,fun h=>by simp [ByteArray.size] at h⟩
@[go_sem] theorem zfk (s:ByteArray):s.toList.isEmpty=decide (s.size=0):=by
 rw [Bool.eq_iff_iff,isEmpty_iff,decide_eq_true_eq,zX6]
theorem zX7 (s:ByteArray) (hs:s.size<=1000000):Pf Tryz.prog 122 [.val (.string s)] (bV (nmB s)):=by
 refine Pf.of_fn (.cons (.val _) .nil) (.val _) ?_
 refine B7 T_ok func122 rfl rfl ntmps122 rfl (by simp) ?_
 refine rG ?_
 refine A3 fun K1 hK1=>?_
 refine rG ?_
 apply A0
 refine A9 (α:=Nat) (fun a=>⟨53,[(0,.val (.string s)),(5,.val (.string s)),(6,iV (s.size:Nat)),(7,iV (a:Nat))],[],0⟩) (fun a=>a<=s.size/\zWt s a=true) (fun a=>s.size-a) 0 ?_ ?_ ?_
 .exact ⟨by omega,rfl⟩
 .refine Weaker.fw 1 0 ?_ ?_<;>simp [go_sem]
 rintro i ⟨hi,hok⟩
 try dsimp only
 refine rG ?_
 refine A3 fun K2 hK2=>?_
 refine cJ (fun h=>?_) fun h=>?_
 .simp at h
  obtain rfl:i=s.size:=by omega
  apply A6
  apply hK1
  refine A3 fun K4 hK4=>?_
  refine D8 T_ok (by decide) ⟨53,[(0,.val (.string s)),(45,bV (zbq s))],[],0⟩ ?_ ?_
  .have hsI:(((s.size:Nat):Int)=2)=(s.size=2):=propext (by omega)
   by_cases c1:s.size=2
   .by_cases c2:chI s 0=114
    .by_cases c3:chI s 1<=57
     .simp [go_sem,c1,c2,c3,hsI]
      refine Weaker.fw 1 0 ?_ ?_<;>simp [go_sem,c1,c2,c3,zbq]
     simp [go_sem,c1,c2,c3,hsI]
     refine Weaker.fw 1 0 ?_ ?_<;>simp [go_sem,c1,c2,c3,zbq]
    simp [go_sem,c1,c2,hsI]
    refine Weaker.fw 1 0 ?_ ?_<;>simp [go_sem,c1,c2,zbq]
   simp [go_sem,c1,hsI]
   refine Weaker.fw 1 0 ?_ ?_<;>simp [go_sem,c1,zbq]
  skip
  refine cK (fun h=>?_) fun h=>?_
  .have hreg:=h
   refine rG ?_
   refine A4 ?_
   simp [go_sem,nmB,hok,hreg]
  have hreg:=h
  apply A1
  apply hK4
  refine D8 T_ok (by decide) ⟨53,[(2,bV (decide (s.size≠0)&&decide (s.size<=16)))],[],0⟩ ?_ ?_
  .have hsI:(((s.size:Nat):Int)<=16)=(s.size<=16):=propext (by omega)
   by_cases c1:s.size=0
   .simp [go_sem,c1,hsI]
    refine Weaker.fw 1 0 ?_ ?_<;>simp [go_sem,c1]
   by_cases c2:s.size<=16
   .simp [go_sem,c1,c2,hsI]
    refine Weaker.fw 1 0 ?_ ?_<;>simp [go_sem,c1,c2]
   simp [go_sem,c1,c2,hsI]
   refine Weaker.fw 1 0 ?_ ?_<;>simp [go_sem,c1,c2]
  skip
  refine A4 ?_
  simp [go_sem,nmB,hok,hreg]
 simp at h
 have h':i<s.size:=by omega
 have hi0:(0:Int)<=(i:Nat):=by omega
 have hw:=wI i
 apply A1
 apply hK2
 refine A3 fun K3 hK3=>?_
 apply A0
 refine rG ?_
 refine rG ?_ fun K h=>by simp [go_sem,h'];exact h
 refine D8 T_ok (by decide) ⟨53,[(0,.val (.string s)),(5,.val (.string s)),(6,iV (s.size:Nat)),(7,iV (i:Nat)),(31,bV (!okC i (chI s i)))],[],0⟩ ?_ ?_
 .generalize chI s i=c
  by_cases c1:97<=c
  .by_cases c2:c<=122
   .simp [go_sem,c1,c2]
    refine Weaker.fw 1 0 ?_ ?_<;>simp [go_sem,c1,c2,okC]
   by_cases c3:0<i
   .by_cases c4:48<=c
    .by_cases c5:c<=57
     .simp [go_sem,c1,c2,c3,c4,c5]
      refine Weaker.fw 1 0 ?_ ?_<;>simp [go_sem,c1,c2,c3,c4,c5,okC]
     simp [go_sem,c1,c2,c3,c4,c5]
     refine Weaker.fw 1 0 ?_ ?_<;>simp [go_sem,c1,c2,c3,c4,c5,okC]
    simp [go_sem,c1,c2,c3,c4]
    refine Weaker.fw 1 0 ?_ ?_<;>simp [go_sem,c1,c2,c3,c4,okC]
   simp [go_sem,c1,c2,c3]
   refine Weaker.fw 1 0 ?_ ?_<;>simp [go_sem,c1,c2,c3,okC]
  by_cases c2:0<i
  .by_cases c3:48<=c
   .by_cases c4:c<=57
    .simp [go_sem,c1,c2,c3,c4]
     refine Weaker.fw 1 0 ?_ ?_<;>simp [go_sem,c1,c2,c3,c4,okC]
    simp [go_sem,c1,c2,c3,c4]
    refine Weaker.fw 1 0 ?_ ?_<;>simp [go_sem,c1,c2,c3,c4,okC]
   simp [go_sem,c1,c2,c3]
   refine Weaker.fw 1 0 ?_ ?_<;>simp [go_sem,c1,c2,c3,okC]
  simp [go_sem,c1,c2]
  refine Weaker.fw 1 0 ?_ ?_<;>simp [go_sem,c1,c2,okC]
 skip
 refine cK (fun h=>?_) fun h=>?_
 .have hc:okC i (chI s i)=false:=by simpa using h
  have hbad:zWt s s.size=false:=zP1 h' hc
  refine rG ?_
  refine A4 ?_
  simp [go_sem,nmB,hbad]
 have hc:okC i (chI s i)=true:=by simpa using h
 apply A1
 apply hK3
 refine rF ?_ fun K h=>by simp [go_sem,hw];exact h
 refine ⟨i+1,?_,?_,?_⟩
 .exact ⟨by omega,by simp [zWt,hok,hc]⟩
 .omega
 refine Weaker.fw 1 0 ?_ ?_<;>simp [go_sem]
theorem zPg (t:Tst):Pf Tryz.prog 121 [.rp t.cs 0] (iV (U6 t)):=by
 refine Pf.of_fn (.cons (x5 t) .nil) (.val _) ?_
 refine B7 T_ok func121 rfl rfl ntmps121 rfl (by simp) ?_
 refine rG ?_
 refine A3 fun K1 hK1=>?_
 refine rG ?_ fun K h=>by simp [go_sem,Tst.cs];exact h
 refine cK (fun h=>?_) fun h=>?_
 .simp at h
  have h1:=h
  refine rG ?_
  refine A4 ?_
  simp [go_sem,U6,h1]
 simp at h
 have h1:=h
 apply A1
 apply hK1
 refine A3 fun K2 hK2=>?_
 refine D8 T_ok (by decide) ⟨49,[(0,.rp t.cs 0),(32,bV (Qh_ t))],[],0⟩ ?_ ?_
 .by_cases c1:(4:Int)<(t.ths.length:Nat)
  .simp [go_sem,c1,Tst.cs]
   refine Weaker.fw 1 0 ?_ ?_<;>simp [go_sem,c1,Qh_,Tst.cs]
  by_cases c2:(8:Int)<(t.locs.length:Nat)
  .simp [go_sem,c1,c2,Tst.cs]
   refine Weaker.fw 1 0 ?_ ?_<;>simp [go_sem,c1,c2,Qh_,Tst.cs]
  by_cases c3:(40:Int)<(t.asks.length:Nat)
  .simp [go_sem,c1,c2,c3,Tst.cs]
   refine Weaker.fw 1 0 ?_ ?_<;>simp [go_sem,c1,c2,c3,Qh_,Tst.cs]
  simp [go_sem,c1,c2,c3,Tst.cs]
  refine Weaker.fw 1 0 ?_ ?_<;>simp [go_sem,c1,c2,c3,Qh_,Tst.cs]
 skip
 refine cK (fun h=>?_) fun h=>?_
 .have h2:=h
  refine rG ?_
  refine A4 ?_
  simp [go_sem,U6,h1,h2]
 have h2:=h
 have hm:t.ths.length<=4:=by unfold Qh_ at h2;simp at h2;omega
 apply A1
 apply hK2
 refine A3 fun K3 hK3=>?_
 refine rG ?_ fun K h=>by simp [go_sem,Tst.cs];exact h
 apply A0
 refine A9 (α:=Nat) (fun a=>⟨49,[(0,.rp t.cs 0),(36,.ro 1 (O3 t.ths)),(37,iV (t.ths.length:Nat)),(38,iV (a:Nat))],[],0⟩) (fun a=>a<=t.ths.length/\∀ x∈t.ths.take a,x.length<=8) (fun a=>t.ths.length-a) 0 ?_ ?_ ?_
 .exact ⟨by omega,by simp⟩
 .refine Weaker.fw 1 0 ?_ ?_
  .simp [go_sem,Tst.cs]
  simp [go_sem]
 rintro i ⟨hi,hok⟩
 try dsimp only
 refine rG ?_
 refine A3 fun K4 hK4=>?_
 refine cJ (fun h=>?_) fun h=>?_
 .simp at h
  obtain rfl:i=t.ths.length:=by omega
  rw [take_length] at hok
  have hev:=zFp t.ths hok
  have hev2:I6 t.ths<=64:=Nat.le_trans hev (by omega)
  apply A6
  apply hK3
  refine A3 fun K6 hK6=>?_
  refine rK fun K hK=>?_
  simp [go_sem]
  refine A2 (zIi t (by omega) (fun x hx=>by have:=hok x hx;omega) (by omega)) ?_
  simp [go_sem]
  apply hK
  refine cK (fun h=>?_) fun h=>?_
  .simp at h
   have h3:8<I6 t.ths:=by omega
   refine rG ?_
   refine A4 ?_
   simp [go_sem,U6,h1,h2,h3]
   try exact fun hh=>absurd hok hh
  simp at h
  have h3:¬ 8<I6 t.ths:=by omega
  apply A1
  apply hK6
  refine rG ?_
  refine A4 ?_
  simp [go_sem,U6,h1,h2,h3]
  try exact hok
 simp at h
 have hI:=h
 clear h
 have h':i<(t.ths).length:=by omega
 obtain ⟨l,hx,hx'⟩:=E0 h'
 have hi0:(0:Int)<=(i:Nat):=by omega
 have hw:=wI i
 apply A1
 apply hK4
 refine A3 fun K5 hK5=>?_
 apply A0
 refine rG ?_ fun K h=>by simp [go_sem,hI,hx,hx',hi0,h'];exact h
 refine rG ?_
 refine cK (fun h=>?_) fun h=>?_
 .simp at h
  have h8:¬ l.length<=8:=by omega
  have hnot:¬ ∀ x∈t.ths,x.length<=8:=fun hh=>h8 (hh l (List.mem_of_getElem? hx))
  refine rG ?_
  refine A4 ?_
  simp only [U6,h1,h2,hnot,if_false,if_true]
  simp [go_sem,h1,h2]
 simp at h
 have h8:l.length<=8:=by omega
 apply A1
 apply hK5
 refine rF ?_ fun K h=>by simp [go_sem,hw];exact h
 refine ⟨i+1,?_,?_,?_⟩
 .refine ⟨by omega,fun y hy=>?_⟩
  rw [N6 hx] at hy
  rcases List.mem_append.1 hy with hy|hy
  .exact hok y hy
  rw [List.mem_singleton.1 hy];exact h8
 .omega
 refine Weaker.fw 1 0 ?_ ?_<;>simp [go_sem]
theorem zPh (t:Tst) (hn:∀ l∈t.locs,l.name.size<=1000000):Pf Tryz.prog 68 [.rp t.cs 0] (iV (I7 t)):=by
 refine Pf.of_fn (.cons (x5 t) .nil) (.val _) ?_
 refine B7 T_ok func68 rfl rfl ntmps68 rfl (by simp) ?_
 refine rG ?_
 refine A3 fun K1 hK1=>?_
 refine rK fun K hK=>?_
 simp [go_sem]
 refine A2 (zPg t) ?_
 simp [go_sem]
 apply hK
 refine rG ?_
 refine cK (fun h=>?_) fun h=>?_
 .simp at h
  have hs:=h
  refine rG ?_
  refine A4 ?_
  simp [go_sem,I7,hs]
 simp at h
 have hz:=h
 obtain ⟨_,b1,b2,b3,b4,_⟩:=O6 hz
 apply A1
 apply hK1
 refine A3 fun K2 hK2=>?_
 refine rG ?_ fun K h=>by simp [go_sem,Tst.cs];exact h
 apply A0
 refine A9 (α:=Nat × Nat) (fun a=>⟨111,[(0,.rp t.cs 0),(22,.ro 2 (Z1 t.locs)),(23,iV (t.locs.length:Nat)),(24,iV (a.1:Nat))],[],a.2⟩) (fun a=>a.1<=t.locs.length/\fe (Z3 t) 0 t.locs=fe (Z3 t) a.1 (t.locs.drop a.1)) (fun a=>t.locs.length-a.1) (0,0) ?_ ?_ ?_
 .exact ⟨by dsimp only;omega,rfl⟩
 .refine Weaker.fw 1 0 ?_ ?_
  .simp [go_sem,Tst.cs]
  simp [go_sem]
 rintro ⟨i,j⟩ ⟨hi,hf⟩
 dsimp only at hi hf ⊢
 refine rG ?_
 refine A3 fun K3 hK3=>?_
 refine cK (fun h=>?_) fun h=>?_
 .simp at h
  have hI:=h
  clear h
  have h':i<(t.locs).length:=by omega
  obtain ⟨l,hx,hx'⟩:=E0 h'
  have hi0:(0:Int)<=(i:Nat):=by omega
  have hw:=wI i
  have hnm:=hn l (List.mem_of_getElem? hx)
  apply A1
  apply hK3
  refine A3 fun K4 hK4=>?_
  apply A0
  refine rG ?_ fun K h=>by simp [go_sem,hI,hx,hx',hi0,h',Wp_,Ini.cs];exact h
  refine A3 fun K5 hK5=>?_
  refine rK fun K hK=>?_
  simp [go_sem,Wp_,Ini.cs]
  refine A2 (zX7 _ (by omega)) ?_
  simp [go_sem]
  apply hK
  refine cK (fun h=>?_) fun h=>?_
  .simp at h
   have hg:Z3 t i l=11:=by simp [Z3,h]
   have hl:fe (Z3 t) 0 t.locs=11:=by rw [hf,VK_ hx (by rw [hg];decide),hg]
   refine rG ?_
   refine A4 ?_
   simp [go_sem,I7,hz,hl]
  simp at h
  have hnk:=h
  apply A1
  apply hK5
  refine Q6 T_ok (by kernel_rfl) 14 [[],[0],[0,1],[0,1,2],[0,1,2,3],[0,1,2],[0,1,2,5],[0,1,2,5,6],[0,1,2,5,6,7],[0,1,2],[0,1,2,9],[0,1,2,5,6,7,8,9,10],[0,1,2,5,6,7,8,9,10,11],[0,1,2,5,6,7,8,9,10,11,12],[0,1,2,3,4,5,6,7,8,9,10,11,12,13],[0,1,2,3,4,5,6,7,8,9,10,11,12,13,14]] [] (by decide) (by decide) (by decide) ⟨111,[(0,.rp t.cs 0),(22,.ro 2 (Z1 t.locs)),(23,iV (t.locs.length:Nat)),(24,iV (i:Nat)),(48,bV (zD1 t i l))],[],j+15⟩ ?_ ?_
  .first|dsimp only [List.take,List.drop]|dsimp [List.take,List.drop]
   by_cases c1:0<i
   .obtain ⟨p,hp,hp'⟩:=E0 (show i-1<t.locs.length by omega)
    have hw1:IntKind.i64.wrap ((i:Int)-1)=((i-1:Nat):Int):=by rw [E4 (by omega) (by omega)];omega
    have g20:((i-1:Nat):Int)<(t.locs.length:Nat)/\(0:Int)<=((i-1:Nat):Int)/\i-1<t.locs.length:=by and_intros<;>omega
    have cI:(0:Int)<(i:Nat):=by omega
    simp [go_sem,c1,Tst.cs,Wp_,Ini.cs,hp,hp',hw1,g20,cI]
    refine Weaker.fw 1 0 ?_ ?_<;>simp [go_sem,c1,zD1,zWu,Tst.cs,hp,hp',hw1,g20,cI]
   have cI:¬ (0:Int)<(i:Nat):=by omega
   simp [go_sem,c1,Tst.cs,Wp_,Ini.cs,cI]
   refine Weaker.fw 1 0 ?_ ?_<;>simp [go_sem,c1,zD1,zWu,Tst.cs,cI]
  skip
  refine cK (fun h=>?_) fun h=>?_
  .have hg:Z3 t i l=16:=by simp [Z3,hnk,h]
   have hl:fe (Z3 t) 0 t.locs=16:=by rw [hf,VK_ hx (by rw [hg];decide),hg]
   refine rG ?_
   refine A4 ?_
   simp [go_sem,I7,hz,hl]
  have hg:Z3 t i l=0:=by simp [Z3,hnk,h]
  apply A1
  apply hK4
  refine rF ?_ fun K h=>by simp [go_sem,hw];exact h
  refine ⟨(i+1,j+15),?_,?_,?_⟩
  .exact ⟨by dsimp only;omega,by dsimp only;rw [hf,UG_ hx hg]⟩
  .dsimp only;omega
  refine Weaker.fw 1 0 ?_ ?_<;>simp [go_sem]
 simp at h
 obtain rfl:i=t.locs.length:=by omega
 rw [zCx] at hf
 have hl:=hf
 clear hf
 apply A6
 apply hK2
 refine A3 fun K6 hK6=>?_
 refine rG ?_ fun K h=>by simp [go_sem,Tst.cs];exact h
 apply A0
 refine A9 (α:=Nat × Nat) (fun a=>⟨111,[(0,.rp t.cs 0),(53,.ro 1 (O3 t.ths)),(54,iV (t.ths.length:Nat)),(55,iV (a.1:Nat))],[],a.2⟩) (fun a=>a.1<=t.ths.length/\fe (Yc_ t) 0 t.ths=fe (Yc_ t) a.1 (t.ths.drop a.1)) (fun a=>t.ths.length-a.1) (0,j) ?_ ?_ ?_
 .exact ⟨by dsimp only;omega,rfl⟩
 .refine Weaker.fw 1 0 ?_ ?_
  .simp [go_sem,Tst.cs]
  simp [go_sem]
 rintro ⟨i,j⟩ ⟨hi,hf⟩
 dsimp only at hi hf ⊢
 refine rG ?_
 refine A3 fun K7 hK7=>?_
 refine cK (fun h=>?_) fun h=>?_
 .simp at h
  have hI:=h
  clear h
  have h':i<(t.ths).length:=by omega
  obtain ⟨l,hx,hx'⟩:=E0 h'
  have hi0:(0:Int)<=(i:Nat):=by omega
  have hw:=wI i
  have hll:=b4 l (List.mem_of_getElem? hx)
  apply A1
  apply hK7
  refine A3 fun K8 hK8=>?_
  apply A0
  refine rG ?_ fun K h=>by simp [go_sem,hI,hx,hx',hi0,h'];exact h
  refine rG ?_
  apply A0
  refine A9 (α:=Nat × Nat) (fun b=>⟨111,[(0,.rp t.cs 0),(7,.ro 13 (Y1 l)),(53,.ro 1 (O3 t.ths)),(54,iV (t.ths.length:Nat)),(55,iV (i:Nat)),(59,.ro 13 (Y1 l)),(60,iV (l.length:Nat)),(61,iV (b.1:Nat))],[],b.2⟩) (fun b=>b.1<=l.length/\fe (fun i x=>P1 t.locs.length ((l.length:Int)-i-1) x) 0 l=fe (fun i x=>P1 t.locs.length ((l.length:Int)-i-1) x) b.1 (l.drop b.1)) (fun b=>l.length-b.1) (0,j) ?_ ?_ ?_
  .exact ⟨by dsimp only;omega,rfl⟩
  .refine Weaker.fw 1 0 ?_ ?_<;>simp [go_sem]
  rintro ⟨b,c⟩ ⟨hib,hfb⟩
  dsimp only at hib hfb ⊢
  refine rG ?_
  refine A3 fun K9 hK9=>?_
  refine cJ (fun h=>?_) fun h=>?_
  .simp at h
   obtain rfl:b=l.length:=by omega
   rw [zCx] at hfb
   have hg:Yc_ t i l=0:=hfb
   apply A6
   apply hK8
   refine rF ?_ fun K h=>by simp [go_sem,hw];exact h
   refine ⟨(i+1,c),?_,?_,?_⟩
   .exact ⟨by dsimp only;omega,by dsimp only;rw [hf,UG_ hx hg]⟩
   .dsimp only;omega
   refine Weaker.fw 1 0 ?_ ?_<;>simp [go_sem]
  simp at h
  have hIb:=h
  clear h
  have h'b:b<(l).length:=by omega
  obtain ⟨x,hxb,hx'b⟩:=E0 h'b
  have hi0b:(0:Int)<=(b:Nat):=by omega
  have hwb:=wI b
  have hwl1:IntKind.i64.wrap ((l.length:Int)-(b:Int))=(l.length:Int)-b:=E4 (by omega) (by omega)
  have hwl2:IntKind.i64.wrap ((l.length:Int)-(b:Int)-1)=(l.length:Int)-b-1:=E4 (by omega) (by omega)
  apply A1
  apply hK9
  refine A3 fun K10 hK10=>?_
  apply A0
  refine rG ?_ fun K h=>by simp [go_sem,hIb,hxb,hx'b,hi0b,h'b,B5];exact h
  refine rK fun K hK=>?_
  simp [go_sem,hwl1,hwl2]
  refine A2 (zPd t x _) ?_
  simp [go_sem]
  apply hK
  refine rG ?_
  refine cK (fun h=>?_) fun h=>?_
  .simp at h
   have hgx:fe (fun i x=>P1 t.locs.length ((l.length:Int)-i-1) x) 0 l=P1 t.locs.length ((l.length:Int)-b-1) x:=by rw [hfb,VK_ hxb h]
   have hg:Yc_ t i l=P1 t.locs.length ((l.length:Int)-b-1) x:=hgx
   have ht:fe (Yc_ t) 0 t.ths=P1 t.locs.length ((l.length:Int)-b-1) x:=by rw [hf,VK_ hx (by rw [hg];exact h),hg]
   refine rG ?_
   refine A4 ?_
   simp [go_sem,I7,hz,hl,ht,h]
  simp at h
  have hgb:=h
  apply A1
  apply hK10
  refine rF ?_ fun K h=>by simp [go_sem,hwb];exact h
  refine ⟨(b+1,c+1),?_,?_,?_⟩
  .exact ⟨by dsimp only;omega,by dsimp only;rw [hfb,UG_ hxb hgb]⟩
  .dsimp only;omega
  refine Weaker.fw 1 0 ?_ ?_<;>simp [go_sem]
 simp at h
 obtain rfl:i=t.ths.length:=by omega
 rw [zCx] at hf
 have ht:=hf
 clear hf
 apply A6
 apply hK6
 refine A3 fun K11 hK11=>?_
 refine rG ?_ fun K h=>by simp [go_sem,Tst.cs];exact h
 apply A0
 refine A9 (α:=Nat × Nat) (fun a=>⟨111,[(0,.rp t.cs 0),(82,.ro 3 (W0_ t.asks)),(83,iV (t.asks.length:Nat)),(84,iV (a.1:Nat))],[],a.2⟩) (fun a=>a.1<=t.asks.length/\fe (S7 t) 0 t.asks=fe (S7 t) a.1 (t.asks.drop a.1)) (fun a=>t.asks.length-a.1) (0,j) ?_ ?_ ?_
 .exact ⟨by dsimp only;omega,rfl⟩
 .refine Weaker.fw 1 0 ?_ ?_
  .simp [go_sem,Tst.cs]
  simp [go_sem]
 rintro ⟨i,j⟩ ⟨hi,hf⟩
 dsimp only at hi hf ⊢
 refine rG ?_
 refine A3 fun K12 hK12=>?_
 refine cJ (fun h=>?_) fun h=>?_
 .simp at h
  obtain rfl:i=t.asks.length:=by omega
  rw [zCx] at hf
  have ha:=hf
  clear hf
  apply A6
  apply hK11
  refine rG ?_
  refine A4 ?_
  simp [go_sem,I7,hz,hl,ht,ha]
 simp at h
 have hI:=h
 clear h
 have h':i<(t.asks).length:=by omega
 obtain ⟨a,hx,hx'⟩:=E0 h'
 have hi0:(0:Int)<=(i:Nat):=by omega
 have hw:=wI i
 apply A1
 apply hK12
 refine A3 fun K13 hK13=>?_
 apply A0
 refine rG ?_ fun K h=>by simp [go_sem,hI,hx,hx',hi0,h',y4,Atm.cs];exact h
 refine A3 fun K14 hK14=>?_
 refine rK fun K hK=>?_
 simp [go_sem,y4,Atm.cs]
 refine A2 (zAh t a) ?_
 simp [go_sem]
 apply hK
 refine rG ?_
 refine cK (fun h=>?_) fun h=>?_
 .simp at h
  have hg:S7 t i a=Zd_ t a:=by simp [S7,h]
  have ha:fe (S7 t) 0 t.asks=Zd_ t a:=by rw [hf,VK_ hx (by rw [hg];exact h),hg]
  refine rG ?_
  refine A4 ?_
  simp [go_sem,I7,hz,hl,ht,ha,h]
 simp at h
 have hak:=h
 apply A1
 apply hK14
 refine Q6 T_ok (by kernel_rfl) 12 [[],[0],[0,1],[0,1,2],[0,1,2,3],[0,1,2,3,4],[0,1,2,3,4,5],[0,1,2],[0,1,2,7],[0,1,2,3,4,5,6,7,8],[0,1,2,3,4,5,6,7,8,9],[0,1,2],[0,1,2,3,4,5,6,7,8,9,10,11],[0,1,2,3,4,5,6,7,8,9,10,11,12],[0,1,2,3,4,5,6,7,8,9,10,11,12,13]] [] (by decide) (by decide) (by decide) ⟨111,[(0,.rp t.cs 0),(82,.ro 3 (W0_ t.asks)),(83,iV (t.asks.length:Nat)),(84,iV (i:Nat)),(109,bV (UH_ t i a))],[],j+13⟩ ?_ ?_
 .first|dsimp only [List.take,List.drop]|dsimp [List.take,List.drop]
  by_cases c1:0<i
  .obtain ⟨p,hp,hp'⟩:=E0 (show i-1<t.asks.length by omega)
   have hw1:IntKind.i64.wrap ((i:Int)-1)=((i-1:Nat):Int):=by rw [E4 (by omega) (by omega)];omega
   have g21:((i-1:Nat):Int)<(t.asks.length:Nat)/\(0:Int)<=((i-1:Nat):Int)/\i-1<t.asks.length:=by and_intros<;>omega
   have cI:(0:Int)<(i:Nat):=by omega
   simp [go_sem,c1,Tst.cs,y4,Atm.cs,hp,hp',hw1,g21,cI]
   refine A2 (zIh p a) ?_
   simp [go_sem,c1,Tst.cs,y4,Atm.cs,hp,hp',hw1,g21,cI]
   refine Weaker.fw 1 0 ?_ ?_<;>simp [go_sem,c1,UH_,Tst.cs,hp,hp',hw1,g21,cI]
  have cI:¬ (0:Int)<(i:Nat):=by omega
  simp [go_sem,c1,Tst.cs,y4,Atm.cs,cI]
  refine Weaker.fw 1 0 ?_ ?_<;>simp [go_sem,c1,UH_,Tst.cs,cI]
 skip
 refine cK (fun h=>?_) fun h=>?_
 .have hg:S7 t i a=16:=by simp [S7,hak,h]
  have ha:fe (S7 t) 0 t.asks=16:=by rw [hf,VK_ hx (by rw [hg];decide),hg]
  refine rG ?_
  refine A4 ?_
  simp [go_sem,I7,hz,hl,ht,ha]
 have hg:S7 t i a=0:=by simp [S7,hak,h]
 apply A1
 apply hK13
 refine rF ?_ fun K h=>by simp [go_sem,hw];exact h
 refine ⟨(i+1,j+13),?_,?_,?_⟩
 .exact ⟨by dsimp only;omega,by dsimp only;rw [hf,UG_ hx hg]⟩
 .dsimp only;omega
 refine Weaker.fw 1 0 ?_ ?_<;>simp [go_sem]
end Go.Proofs.YtmpbalepefpllaaGreat
namespace Go.Sl
section
variable {F:Nat->Prop} {ι ι':E3} {O:Nat->Prop} {H H' G:A8} {P:Program}
theorem View.drop (v:V):∀ (G:A8),View (G++H) v H v
 | []=>View.refl _ _
 | p::r=>by
  have h:=View.del (H:=(p::r)++H) p.1 v
  simp only [cons_append,Sl.del,if_true] at h
  exact h.trans (View.drop v r)
theorem Xw_ (hN:(H.map Prod.fst).Nodup) (hn:(G.map Prod.fst).Nodup) (hG:∀ p∈G,look p.1 H=some p.2):H.Perm (G++H.filter fun p=>!decide (p.1∈G.map Prod.fst)):=by
 have hnd:H.Nodup:=M3 _ hN
 have hnd':G.Nodup:=M3 _ hn
 have p1:(H.filter fun p=>decide (p.1∈G.map Prod.fst)).Perm G:=by
  rw [perm_ext_iff_of_nodup (hnd.filter _) hnd']
  intro p
  simp only [List.mem_filter,decide_eq_true_eq]
  constructor
  .rintro ⟨h1,h2⟩
   obtain ⟨q,hq,he⟩:=List.mem_map.1 h2
   have e1:=hG q hq
   have e2:=I1 (n:=p.1) (b:=p.2) hN h1
   rw [<-he,e1] at e2
   have e3:=Option.some.inj e2
   have:q=p:=Prod.ext he e3
   exact this▸hq
  intro h
  exact ⟨D6 (hG p h),mem_map_of_mem h⟩
 exact (filter_append_perm (fun p=>decide (p.1∈G.map Prod.fst)) H).symm.trans (p1.append_right _)
theorem View.sub {v:V} (hn:(G.map Prod.fst).Nodup) (hG:∀ p∈G,look p.1 H=some p.2):View H v G v:=fun F ι w cv R hv =>
 (((View.perm (Xw_ R.names hn hG) v).trans (View.perm perm_append_comm v)).trans (View.drop v _)) F ι w cv R hv
theorem Fn.keep {f:FuncId} {args:List V} {k:Nat} {r:V} (hn:(G.map Prod.fst).Nodup) (h:Fn P f args H k fun v H' _=>v=r/\∀ p∈G,look p.1 H'=some p.2):Fn P f args H k fun v H' _=>v=r/\H'=G :=
 Fn.view (h.mono fun v H' k' e=>⟨G,v,View.sub hn e.2,e.1,rfl⟩)
def VN_ (G H:A8):A8:=H.map fun p=>(p.1,(look p.1 G).getD p.2)
theorem zIs {G:A8} {n:Nat} (h:n∉G.map Prod.fst):look n G=none:=L4.2 h
theorem zIt {Hf:A8} (hN:(H.map Prod.fst).Nodup) (he:G.map Prod.fst=Hf.map Prod.fst) (hn:(Hf.map Prod.fst).Nodup) (hl:∀ p∈Hf,look p.1 H=some p.2):(G++H.filter fun p=>!decide (p.1∈Hf.map Prod.fst)).Perm (VN_ G H):=by
 have hnG:(G.map Prod.fst).Nodup:=by rw [he];exact hn
 have hU:((VN_ G H).map Prod.fst)=H.map Prod.fst:=by simp [VN_,Function.comp_def]
 have hUn:(VN_ G H).Nodup:=M3 Prod.fst (by rw [hU];exact hN)
 have hL:(G++H.filter fun p=>!decide (p.1∈Hf.map Prod.fst)).Nodup:=by
  rw [nodup_append]
  refine ⟨M3 _ hnG,(M3 _ hN).filter _,fun a ha b hb e=>?_⟩
  subst e
  simp only [List.mem_filter,Bool.not_eq_true',decide_eq_false_iff_not] at hb
  exact hb.2 (by rw [<-he];exact mem_map_of_mem ha)
 rw [perm_ext_iff_of_nodup hL hUn]
 intro p
 simp only [mem_append,List.mem_filter,Bool.not_eq_true',decide_eq_false_iff_not,VN_,mem_map]
 constructor
 .rintro (h|⟨h1,h2⟩)
  .have:p.1∈Hf.map Prod.fst:=by rw [<-he];exact mem_map_of_mem h
   obtain ⟨q,hq,e⟩:=List.mem_map.1 this
   have h3:=D6 (hl q hq)
   refine ⟨q,h3,?_⟩
   rw [e,I1 hnG (n:=p.1) (b:=p.2) h]
   rfl
  refine ⟨p,h1,?_⟩
  rw [zIs (by rw [he];simpa using h2)];rfl
 rintro ⟨q,hq,e⟩
 subst e
 by_cases h:q.1∈Hf.map Prod.fst
 .left
  have h':q.1∈G.map Prod.fst:=by rw [he];exact h
  obtain ⟨g,hg,e⟩:=List.mem_map.1 h'
  have:=I1 hnG (n:=g.1) (b:=g.2) hg
  rw [e] at this
  rw [this]
  simp only [Option.getD_some]
  have:(q.1,g.2)=g:=Prod.ext e.symm rfl
  rw [this];exact hg
 right
 rw [zIs (by rw [he];exact h)]
 exact ⟨hq,by simpa using h⟩
theorem D7 {f : FuncId} {args : List V} {k : Nat} {K : V → A8 → Nat → Prop} {Hf : A8} {r : V} (h : Fn P f args Hf k fun v H' _ => v = r ∧ H' = G) (he : G.map Prod.fst = Hf.map Prod.fst) (hn : (Hf.map Prod.fst).Nodup) (hl : ∀ p ∈ Hf, look p.1 H = some p.2)
    (hK:∀ k',k<=k'->K r (VN_ G H) k'):@x4 P f args H k ⟨K⟩ :=
  show Fn P f args H k K from ⟨h.enters,fun F ι w cargs h1 h2 h3=>by
    have p:=Xw_ h2.names hn hl
    have q:=zIt h2.names he hn hl
    refine Fn.calls (Fn.view ((h.frame p (K:=fun v H' k'=>k<=k'/\v=r/\H'=G++H.filter fun p=>!decide (p.1∈Hf.map Prod.fst)) fun v H' k' hk e=>⟨hk,e.1,by rw [e.2]⟩).mono fun v H' k' e=>⟨VN_ G H,v,?_,?_⟩)) F ι w cargs h1 h2 h3
    . rw [e.2.2];exact View.perm q v
    rw [e.2.1];exact hK k' e.1⟩
end
theorem zD6 {P:Program} {x y:Code} {Q:Exit->St->Prop} {σ:St} {α:Type} (S:α->St) (I:α->Prop) (h:Tr P x (zSb (fun σ=>∃ a,I a/\Weaker σ (S a)) Q) σ) (hy:∀ a,I a->Tr P y Q (S a)):Tr P (.seq x y) Q σ :=
 W7_ (h.mono fun e σ'' hq=>by
  cases e with
  | normal=>obtain ⟨a,ha,hw⟩:=hq;exact Tr.weaken hw (hy a ha)
  | _=>exact hq)
section
variable {x y:Int} {K:V->Prop}
def o64 (x y:Int):Int:=IntKind.u64.wrap ((BitVec.ofInt 64 x ||| BitVec.ofInt 64 y).toNat:Nat)
def n64 (x y:Int):Int:=IntKind.u64.wrap ((BitVec.ofInt 64 x &&& BitVec.ofInt 64 y).toNat:Nat)
def x64 (x y:Int):Int:=IntKind.u64.wrap ((BitVec.ofInt 64 x ^^^ BitVec.ofInt 64 y).toNat:Nat)
def y7 (x y:Int):Int:=IntKind.u64.wrap (x*2 ^ (min y.toNat 64))
def zPi (x y:Int):Int:=x.fdiv (2 ^ (min y.toNat 64))
theorem zPj:L3 .or .u64 x y K=K (.val (.int .u64 (o64 x y))):=Eq.trans rfl rfl
theorem zIu:L3 .and .u64 x y K=K (.val (.int .u64 (n64 x y))):=Eq.trans rfl rfl
theorem zIv:L3 .xor .u64 x y K=K (.val (.int .u64 (x64 x y))):=Eq.trans rfl rfl
theorem zX8:zHh .shl .u64 x y K=(0<=y/\K (.val (.int .u64 (y7 x y)))):=Eq.trans rfl rfl
theorem zX9:zHh .shr .u64 x y K=(0<=y/\K (.val (.int .u64 (zPi x y)))):=Eq.trans rfl rfl
end
attribute [go_sem ↓ high] zPj zIu zIv zX8 zX9
attribute [go_sem] VN_
end Go.Sl
namespace Go.Sl
section
variable {F:Nat->Prop} {ι ι':E3} {H H':A8} {P:Program}
theorem Fn.pre {f : FuncId} {args args' : List V} {k : Nat} {K : V → A8 → Nat → Prop}
    (hw:∀ F ι w cargs,VRels ι (Own F ι H) w args cargs->Rep F ι H w->VRels ι (Own F ι H') w args' cargs/\Rep F ι H' w/\Kept ι H w ι H' w/\∀ n,n∈H'.map Prod.fst->n∈H.map Prod.fst)
    (h:Fn P f args' H' k K):Fn P f args H k K :=
  ⟨h.enters,fun F ι w cargs h1 h2 h3=>by
    obtain ⟨a1,a2,a3,a4⟩:=hw F ι w cargs h1 h2
    refine (h.calls F ι w cargs a1 a2 h3).mono ?_
    rintro e w' ⟨ι',v,cv,H2,k',he,hr,hO⟩
    exact ⟨ι',v,cv,H2,k',he,hr,⟨⟨a3.trans hO.ext.kept,hO.ext.le,hO.ext.same,fun n hn=>(hO.ext.dom n hn).imp (a4 n) id⟩,hO.rep,hO.fresh,hO.val⟩⟩⟩
theorem ZE_ (d dh : Nat) {args args' : List V} (ha : args.map (frz (H'.map Prod.fst) H d) = args') (hn : (H'.map Prod.fst).Nodup) (hH : ∀ p ∈ H', ∃ B, look p.1 H = some B ∧ U9_ (H'.map Prod.fst) H dh B = p.2)
    (F:Nat->Prop) (ι:E3) (w:World) (cargs:List Value) (hv:VRels ι (Own F ι H) w args cargs) (R:Rep F ι H w):VRels ι (Own F ι H') w args' cargs/\Rep F ι H' w/\Kept ι H w ι H' w/\∀ n,n∈H'.map Prod.fst->n∈H.map Prod.fst:=by
  have L:Less ι (H'.map Prod.fst) H H':=⟨fun n B hm=>⟨mem_map_of_mem (f:=Prod.fst) hm,by
    obtain ⟨C,hC,_⟩:=hH _ hm
    exact ⟨C,D6 hC⟩⟩⟩
  have hno:∀ b,¬ OwnH ι H b->¬ OwnH ι H' b:=fun b hb ⟨n,B,l,hm,hl,hg,he⟩=>by
    obtain ⟨C,hC,_⟩:=hH _ hm
    exact hb ⟨n,C,l,D6 hC,hl,hg,he⟩
  have K:Kept ι H w ι H' w:=⟨fun _ _ h=>h,rfl,Tp.refl _,rfl,Nat.le_refl _,fun _ _ _=>rfl,fun b _ h=>Classical.byContradiction fun hc=>hno b hc h⟩
  refine ⟨?_,⟨R.frame,hn,fun n B hm=>?_,fun n B m C l l' h1 h2=>?_⟩,K,fun n h=>?_⟩
  . rw [<-ha];exact hv.mapF fun v x h=>Qg_ L R d v x h
  . obtain ⟨C,hC,hB⟩:=hH _ hm
    obtain ⟨l,hl,hr,hg⟩:=R.own n C (D6 hC)
    refine ⟨l,hl,?_,hg⟩
    have:=zI9 L R dh hr
    rw [hB] at this;exact this
  . obtain ⟨B',hB',_⟩:=hH _ h1
    obtain ⟨C',hC',_⟩:=hH _ h2
    exact R.apart n B' m C' l l' (D6 hB') (D6 hC')
  obtain ⟨p,hp,rfl⟩:=List.mem_map.1 h
  obtain ⟨C,hC,_⟩:=hH _ hp
  exact List.mem_map.2 ⟨(p.1,C),D6 hC,rfl⟩
theorem zIw {f : FuncId} {args : List V} {k : Nat} {K : V → A8 → Nat → Prop} {r : V} (H' : A8) (args' : List V) (d dh : Nat) (h : Pf P f args' r) (ha : args.map (frz (H'.map Prod.fst) H d) = args') (hn : (H'.map Prod.fst).Nodup) (hH : ∀ p ∈ H', ∃ B, look p.1 H = some B ∧ U9_ (H'.map Prod.fst) H dh B = p.2)
    (hK:K r H' k):@x4 P f args H k ⟨K⟩:=Fn.pre (ZE_ d dh ha hn hH) (h.fn hK)
theorem Weaker.seen {N k:Nat} {t t':List (Nat × V)} {H:A8} (h:∀ p∈t',SeenAs (Sl.get t p.1) p.2):Weaker ⟨N,t,H,k⟩ ⟨N,t',H,k⟩ :=
 ⟨fun F ι a w hh=>⟨ι,⟨hh.defers,hh.size,fun i=>by
  rcases UB_ t' i with e|hm
  .simp only [];rw [e];exact .any _
  exact h _ hm _ _ _ _ (hh.tmps i),hh.rep,hh.fresh⟩,Ext.refl _ _ _ _ _⟩⟩
theorem zPk {t:List (Nat × V)}:∀ {t':List (Nat × V)},SeenAll (t'.map fun p=>Sl.get t p.1) (t'.map Prod.snd)->∀ p∈t',SeenAs (Sl.get t p.1) p.2
 | [],_,p,hp=>absurd hp (not_mem_nil)
 | q::r,.cons h hs,p,hp=>by
  rcases List.mem_cons.1 hp with rfl|hp
  .exact h
  exact zPk hs p hp
end
section
variable {F:Nat->Prop} {ι ι':E3} {O:Nat->Prop} {H H':A8} {σ σ':St} {a a':Act} {w w':World} {P:Program} {T:Tab} {Q:Exit->St->Prop}
theorem zXa (hT:J9 P T) (ops:List Oper) (l l2:List Oper) (σm:St) (K:St->Prop) (h2:TrL P ops.toArray l2 K σm):∀ (σ:St),vcL T P ops σ.N l (fun σ=>Weaker σ σm) σ.t σ.H σ.k->(∀ o∈ops,Yp_ o.dst σ.N)->TrL P ops.toArray (l++l2) K σ:=by
 induction l with
 | nil =>
  intro σ h _ F ι a w hh Q hQ
  obtain ⟨ι',hh',hx⟩:=h.h F ι a w hh
  exact h2 F ι' a w hh' Q fun ι2 σ2 a2 w2 hK2 hh2 hx2=>hQ ι2 σ2 a2 w2 hK2 hh2 (hx.trans hx2)
 | cons o rest ih =>
  intro σ h hops F ι a w hh Q hQ
  simp only [vcL] at h
  obtain ⟨hd,hg⟩:=h
  have yes:opV T P σ.t σ.H σ.k o.op (fun v H' k'=>vcL T P ops σ.N rest (fun σ=>Weaker σ σm) (W6_ σ.t o.dst v) H' k')->o.wp P a w (wpList P ops.toArray Q (rest++l2)) Q:=fun h=>by
   refine Xe_ hT trivial (fun _=>rfl) h F ι a w hh _ Q ?_
   intro ι' v cv H' k' w' hk hO
   have hh':=hh.step hO (dst:=o.dst) (fun d hd'=>by rw [hd'] at hd;exact hd)
   exact ih ⟨σ.N,W6_ σ.t o.dst v,H',k'⟩ hk hops F ι' _ w' hh' Q fun ι'' σ'' a'' w'' hK hh'' hx=>hQ ι'' σ'' a'' w'' hK hh'' (hO.ext.trans hx)
  have no:vcL T P ops σ.N rest (fun σ=>Weaker σ σm) (W6_ σ.t o.dst (.tup [])) σ.H σ.k->wpList P ops.toArray Q (rest++l2) (a.put o.dst undef) w:=fun h =>
   ih ⟨σ.N,W6_ σ.t o.dst (.tup []),σ.H,σ.k⟩ h hops F ι _ w (hh.skipped hd) Q hQ
  have hg:=Xf_ hg
  unfold QU_ at hg
  cases hgd:o.guard with
  | none =>
   rw [hgd] at hg
   simp only [cons_append,wpList]
   rw [if_pos (by simp [Region.wanted,hgd])]
   exact .inl (yes hg)
  | some g =>
   obtain ⟨j,want⟩:=g
   rw [hgd] at hg
   simp only at hg
   cases hj:(ops[j]?).bind (·.dst) with
   | none=>rw [hj] at hg;exact hg.elim
   | some d =>
    rw [hj] at hg
    simp only at hg
    have hdN:d<σ.N:=by
     obtain ⟨oj,hoj,hdj⟩:=Option.bind_eq_some_iff.1 hj
     have:=hops oj (List.mem_of_getElem? hoj)
     rw [hdj] at this;exact this
    obtain ⟨hy1,hy2⟩:=hh.yields hdN
    have hyl:∀ b,a.tmps[d]?=some (.bool b)->yielded ops.toArray a.tmps j=some b:=by
     intro b hb
     unfold yielded
     have:((ops.toArray[j]?).bind (·.dst))=some d:=by simpa using hj
     rw [this];simp [hb]
    simp only [cons_append,wpList]
    split at hg
    .rename_i b hb
     have hyb:=hyl b (hy1 b hb)
     cases want<;>cases b<;>simp only [Region.wanted,hgd,hyb,if_true,if_false,Bool.false_eq_true] at hg ⊢
     .rw [if_pos (by simp)];exact .inl (yes (hg.1 trivial))
     .rw [if_neg (by simp)];exact no (hg.2 trivial)
     .rw [if_neg (by simp)];exact no (hg.2 trivial)
     rw [if_pos (by simp)];exact .inl (yes (hg.1 trivial))
    .rename_i hb
     have ht:=hy2 hb
     have hyn:yielded ops.toArray a.tmps j=none:=by
      unfold yielded
      have:((ops.toArray[j]?).bind (·.dst))=some d:=by simpa using hj
      rw [this];simp [ht]
     rw [if_neg (by simp [Region.wanted,hgd,hyn])]
     exact no hg
    exact hg.elim
theorem Qn_ {id:Nat} {l:List Oper} {y:Code} (h:TrL P l.toArray l (fun σ'=>Tr P y Q σ') σ):Tr P (.seq (.region id l.toArray false) y) Q σ :=
 W7_ fun F ι a w hh=>wp_region_lit (h F ι a w hh _ fun ι' σ' _ _ hK hh' hx=>⟨ι',σ',hK,hh',hx⟩)
theorem zms (hT : J9 P T) {l l2 : List Oper} {N k : Nat} {t : List (Nat × V)} {H : A8} {K : St → Prop} (n : Nat) (t' : List (Nat × V)) (H' : A8) (k' : Nat) (hN : R8 l N = true)
    (h1:vcL T P l N (l2.take n) (fun σ=>Weaker σ ⟨N,t',H',k'⟩) t H k) (h2:TrL P l.toArray (l2.drop n) K ⟨N,t',H',k'⟩):TrL P l.toArray l2 K ⟨N,t,H,k⟩:=by
  have e:=zXa hT l (l2.take n) (l2.drop n) ⟨N,t',H',k'⟩ K h2 ⟨N,t,H,k⟩ h1 (U1 hN)
  rwa [take_append_drop] at e
theorem zAm (hT:J9 P T) {l l2:List Oper} {y:Code} {N k:Nat} {t:List (Nat × V)} {H:A8} (hN:R8 l N=true) (h:∀ K:St->Prop,(∀ σ',Tr P y Q σ'->K σ')->vcL T P l N l2 K t H k):TrL P l.toArray l2 (fun σ'=>Tr P y Q σ') ⟨N,t,H,k⟩ :=
 Xg_ hT l l2 _ ⟨N,t,H,k⟩ (h _ fun _ h=>h) (U1 hN)
end
end Go.Sl
namespace Go.Sl
section
variable {F:Nat->Prop} {ι ι':E3} {O:Nat->Prop} {H H':A8} {σ σ':St} {a a':Act} {w w':World} {P:Program} {T:Tab} {Q:Exit->St->Prop}
theorem zIx {ops:Array Oper} {o:Oper} {l:List Oper} {K:St->Prop} (hg:o.guard=none) (hd:Yp_ o.dst σ.N) (h:OpT All P o σ fun v H k=>TrL P ops l K ⟨σ.N,W6_ σ.t o.dst v,H,k⟩):TrL P ops (o::l) K σ:=by
 intro F ι a w hh Q hQ
 simp only [wpList]
 rw [if_pos (by simp [Region.wanted,hg])]
 refine .inl (h F ι a w hh _ Q ?_)
 intro ι' v cv H' k' w' hk hO
 have hh':=hh.step hO (dst:=o.dst) (fun d hd'=>by rw [hd'] at hd;exact hd)
 exact hk F ι' _ w' hh' Q fun ι'' σ'' a'' w'' hK hh'' hx=>hQ ι'' σ'' a'' w'' hK hh'' (hO.ext.trans hx)
theorem zPl {ops : Array Oper} {o : Oper} {l : List Oper} {K : St → Prop} {N k d it : Nat} {t : List (Nat × V)} (ho : o.op = .next (.tmp it) false) (hg : o.guard = none) (hdst : o.dst = some d) (hd : d < N)
    (r m n:Nat) (done:List Nat) (es:List (V × V)) (hx:Sl.get t it=.ptr r 0 0) (hr:look r H=some (.iter m done n)) (hm:look m H=some (.map es)) (hn:es.length=n)
    (h0:(∀ i,i<n->i∈done)->TrL P ops l K ⟨N,(d,.tup [.val (.bool false)])::t,H,k⟩)
    (h1:∀ i p,es[i]?=some p->i∉done->TrL P ops l K ⟨N,(d,.tup [.val (.bool true),p.1,p.2])::t,put r (.iter m (done++[i]) n) H,k⟩):TrL P ops (o::l) K ⟨N,t,H,k⟩:=by
  refine zIx hg (by rw [hdst];exact hd) (zUj (.tmp it) ho hx hr hm hn (fun h=>?_) fun i p hp hi=>?_)
  . rw [hdst];exact h0 h
  rw [hdst];exact h1 i p hp hi
end
end Go.Sl
namespace Go.Sl
section
variable {F:Nat->Prop} {ι ι':E3} {H H':A8} {P:Program}
theorem Pf.lend {f:FuncId} {args args':List V} {r:Value} (h:Pf P f args' (.val r)) (d:Nat) (ha:args.map (frz [] H d)=args'):PfH P f args H (.val r) :=
 ⟨h.enters,fun F ι w cargs hv R=>by
  obtain ⟨a1,a2,_,_⟩:=ZE_ (H:=H) (H':=[]) d 0 ha (by simp) (by simp) F ι w cargs hv R
  refine (h.calls ι (Own F ι []) w cargs a2.own_lt a1).mono ?_
  rintro e w' ⟨cv,he,hcv,rest⟩
  refine ⟨cv,he,?_,rest⟩
  cases hcv with
  | val _ h=>exact .val _ h⟩
theorem G3 {g:FuncId} {args args':List V} {r:Value} {K:V->Prop} (h:Pf P g args' (.val r)) (d:Nat) (ha:args.map (frz [] H d)=args') (k:K (.val r)):@zHs P g args H ⟨K⟩:=⟨.val r,h.lend d ha,k⟩
theorem zfl {g:FuncId} {args args':List V} {r:Value} {k:Nat} {K:V->A8->Nat->Prop} (h:Pf P g args' (.val r)) (d:Nat) (ha:args.map (frz [] H d)=args') (hk:K (.val r) H k):@x4 P g args H k ⟨K⟩:=(h.lend d ha).fn hk
def zAn (r:V):Prop:=∀ ι O w ι' O' w' cv,VRel ι O w r cv->VRel ι' O' w' r cv
theorem q0 {ι ι':E3} {O O':Nat->Prop} {w w':World}:∀ {cs:List V} {xs:List Value},(∀ v∈cs,∃ x,v=.val x)->VRels ι O w cs xs->VRels ι' O' w' cs xs
 | [],_,_,.nil=>.nil
 | v::cs,_,h,.cons h1 h2=>by
  obtain ⟨x,rfl⟩:=h v (.head _)
  refine .cons ?_ (q0 (fun u hu=>h u (.tail _ hu)) h2)
  cases h1 with
  | val _ hx=>exact .val _ hx
theorem u6 {cs:List V} (h:∀ v∈cs,∃ x,v=.val x):zAn (.agg cs):=fun ι O w ι' O' w' cv hv=>by
 cases hv with
 | agg hv=>exact .agg (q0 h hv)
theorem Pf.lendP {f:FuncId} {args args':List V} {r:V} (h:Pf P f args' r) (hp:zAn r) (d:Nat) (ha:args.map (frz [] H d)=args'):PfH P f args H r :=
 ⟨h.enters,fun F ι w cargs hv R=>by
  obtain ⟨a1,a2,_,_⟩:=ZE_ (H:=H) (H':=[]) d 0 ha (by simp) (by simp) F ι w cargs hv R
  refine (h.calls ι (Own F ι []) w cargs a2.own_lt a1).mono ?_
  rintro e w' ⟨cv,he,hcv,rest⟩
  exact ⟨cv,he,hp _ _ _ _ _ _ _ hcv,rest⟩⟩
theorem Xx_ {g:FuncId} {args args':List V} {r:V} {K:V->Prop} (h:Pf P g args' r) (hp:zAn r) (d:Nat) (ha:args.map (frz [] H d)=args') (k:K r):@zHs P g args H ⟨K⟩:=⟨r,h.lendP hp d ha,k⟩
theorem u7 {g:FuncId} {args args':List V} {r:V} {k:Nat} {K:V->A8->Nat->Prop} (h:Pf P g args' r) (hp:zAn r) (d:Nat) (ha:args.map (frz [] H d)=args') (hk:K r H k):@x4 P g args H k ⟨K⟩:=(h.lendP hp d ha).fn hk
end
end Go.Sl
namespace Go.Sl
open Go
section
variable {P:Program} {H:A8}
theorem zmt {α : Type} {I : α → Nat → Prop} {G : α → A8} {f : FuncId} {args : List V} {k : Nat} {K : V → A8 → Nat → Prop} {Hf : A8} {r : V} (h : Fn P f args Hf k fun v H' k' => ∃ a, I a k' ∧ v = r ∧ H' = G a) (hn : (Hf.map Prod.fst).Nodup) (hl : ∀ p ∈ Hf, look p.1 H = some p.2)
    (hK:∀ k' a,k<=k'->I a k'->K r (G a++H.filter fun p=>!decide (p.1∈Hf.map Prod.fst)) k'):@x4 P f args H k ⟨K⟩ :=
  show Fn P f args H k K from ⟨h.enters,fun F ι w cargs h1 h2 h3=>by
    have p:=Xw_ h2.names hn hl
    refine Fn.calls ((h.frame p (K:=fun v H' k'=>∃ a,k<=k'/\I a k'/\v=r/\H'=G a++H.filter fun p=>!decide (p.1∈Hf.map Prod.fst)) fun v H' k' hk e=>?_).mono fun v H' k' e=>?_) F ι w cargs h1 h2 h3
    . obtain ⟨a,e1,e2,e3⟩:=e
      exact ⟨a,hk,e1,e2,by rw [e3]⟩
    obtain ⟨a,e1,e2,rfl,rfl⟩:=e
    exact hK k' a e1 e2⟩
end
end Go.Sl
namespace Go.Sl
def V.pure1:V->Bool
 | .val _|.ptr _ _ _|.sl _ _ _|.sub _ _ _ _ _|.map _=>true
 | _=>false
def V.pureE:V->Bool
 | .agg cs=>cs.all V.pure1
 | v=>v.pure1
def zIy (H:A8):Bool:=H.all fun p=>match p.2 with|.rows _ es=>es.all V.pureE|_=>false
section
variable {F F' O O':Nat->Prop} {ι:E3} {H H':A8} {w:World} {P:Program}
theorem Qo_ {v:V} {x:Value} (hp:v.pure1=true) (h:VRel ι O w v x):VRel ι O' w v x:=by
 cases h with
 | val _ h=>exact .val _ h
 | ptr a b c d=>exact .ptr a b c d
 | sl a b c d e f g i=>exact .sl a b c d e f g i
 | sl0 a=>exact .sl0 a
 | sub a b c d e f g=>exact .sub a b c d e f g
 | map a b c=>exact .map a b c
 | _=>cases hp
theorem u9:∀ {vs:List V} {xs:List Value},vs.all V.pure1=true->VRels ι O w vs xs->VRels ι O' w vs xs
 | [],_,_,.nil=>.nil
 | v::vs,_,hp,.cons h hs=>by
  rw [List.all_cons,Bool.and_eq_true] at hp
  exact .cons (Qo_ hp.1 h) (u9 hp.2 hs)
theorem Qp_ {v:V} {x:Value} (hp:v.pureE=true) (h:VRel ι O w v x):VRel ι O' w v x:=by
 by_cases he:∃ cs,v=.agg cs
 .obtain ⟨cs,rfl⟩:=he
  cases h with
  | agg h=>exact .agg (u9 hp h)
 refine Qo_ ?_ h
 cases v<;>first|exact hp|exact absurd ⟨_,rfl⟩ he
theorem zAo {v:V} (hp:v.pureE=true):v.cells.all V.pure1=true:=by
 cases v<;>first|exact hp|(simp only [V.cells,List.all_cons,List.all_nil,Bool.and_true];exact hp)
theorem Qq_ {es:List V} (h:es.all V.pureE=true):(es.flatMap V.cells).all V.pure1=true:=by
 rw [all_eq_true] at h ⊢
 intro c hc
 obtain ⟨e,he,hc⟩:=List.mem_flatMap.1 hc
 exact List.all_eq_true.1 (zAo (h e he)) c hc
theorem VRel.less (h:∀ b,O' b->O b) {v:V} {x:Value} (hv:VRel ι O w v x) (hO:∀ b,O b->b<w.heap.size):VRel ι O' w v x :=
 hv.stays ⟨fun _ _ h=>h,Nat.le_refl _,fun b _ hn=>⟨fun hb=>hn (h b hb),rfl⟩⟩
end
structure PfF (P:Program) (f:FuncId) (args:List V) (r:V):Prop where
 enters:Enters P f
 calls:∀ ι O w cargs,(∀ b,O b->b<w.heap.size)->VRels ι O w args cargs->Calls P f cargs.toArray w fun e w'=>∃ cv,e=.returned cv/\(∀ ι' O',(∀ b,O' b->b<w.heap.size)->VRel ι' O' w' r cv) ∧
  w'.os=w.os/\Tp w w'/\w'.output=w.output/\w.heap.size<=w'.heap.size/\∀ b,b<w.heap.size->w'.heap[b]?=w.heap[b]?
section
variable {P:Program} {f:FuncId} {args args':List V} {r:V} {H:A8}
theorem PfF.pf (h:PfF P f args r):Pf P f args r:=⟨h.enters,fun ι O w cargs hO hv=>(h.calls ι O w cargs hO hv).mono fun e w' ⟨cv,he,hr,rest⟩=>⟨cv,he,hr ι O hO,rest⟩⟩
theorem PfF.of_pure (h:Pf P f args r) (hp:zAn r):PfF P f args r:=⟨h.enters,fun ι O w cargs hO hv=>(h.calls ι O w cargs hO hv).mono fun e w' ⟨cv,he,hr,rest⟩=>⟨cv,he,fun _ _ _=>hp _ _ _ _ _ _ _ hr,rest⟩⟩
theorem zja (x:Value):zAn (.val x):=fun ι O w ι' O' w' cv h=>by cases h with|val _ h=>exact .val _ h
theorem PfF.of_fn (d:Nat) (ha:NLs args) (hr:NL r) (h:Fn P f args [] 0 fun v H' _=>frz [] H' d v=r/\v.pureE=true/\zIy H'=true):PfF P f args r:=by
 refine ⟨h.enters,fun ι O w cargs hO hv=>?_⟩
 have hown:Own O (fun _=>none) []=O:=funext fun b=>propext ⟨fun h=>h.elim id (fun ⟨_,_,_,h,_⟩=>by cases h),.inl⟩
 have R:Rep O (fun _=>none) [] w:=⟨hO,by simp,(by intro _ _ h;cases h),(by intro _ _ _ _ _ _ h;cases h)⟩
 refine (h.calls O (fun _=>none) w cargs (by rw [hown];exact ha.rels hv) R (fun _ _=>rfl)).mono ?_
 rintro e w' ⟨ι',v,cv,H',k',he,⟨hfr,hpv,hpH⟩,hO'⟩
 have hno:∀ b,b<w.heap.size->¬ OwnH ι' H' b:=fun b hb ho=>by
  obtain ⟨_,_,_,h,_⟩:=hO'.ext.kept.old b hb ho;cases h
 have K:=hO'.ext.kept
 refine ⟨cv,he,fun ι2 O2 h2=>?_,K.os,K.tape,K.output,K.size,fun b hb=>K.stay b hb fun ⟨_,_,_,h,_⟩=>by cases h⟩
 have hpB:∀ n B,(n,B)∈H'->∃ sz es,B=.rows sz es/\es.all V.pureE=true:=fun n B hm=>by
  have:=List.all_eq_true.1 hpH _ hm
  cases B with
  | rows sz es=>exact ⟨sz,es,rfl,this⟩
  | _=>cases this
 -- all that was there before is not the callee's
 have R2:Rep (fun b=>b<w.heap.size) ι' H' w':=⟨fun b hb=>Nat.lt_of_lt_of_le hb K.size,hO'.rep.names,fun n B hm=>by
  obtain ⟨l,hl,hB,hg⟩:=hO'.rep.own n B hm
  obtain ⟨sz,es,rfl,hes⟩:=hpB n B hm
  refine ⟨l,hl,?_,fun hgh=>⟨(hg hgh).1,fun hb=>hno _ hb ⟨n,_,l,hm,hl,hgh,rfl⟩⟩⟩
  obtain ⟨b1,b2,b3,b4⟩:=hB
  refine ⟨b1,b2,b3,?_⟩
  rcases b4 with b4|⟨b4,c,e,b5,b6,b7,b8⟩
  .exact .inl b4
  exact .inr ⟨b4,c,e,b5,b6,b7,u9 (Qq_ hes) b8⟩,hO'.rep.apart⟩
 obtain ⟨_,_,_,hv2⟩:=View.fz (H:=H') d v _ _ _ _ R2 (Qp_ hpv hO'.val)
 rw [hfr] at hv2
 have hown2:Own (fun b=>b<w.heap.size) ι' []=fun b=>b<w.heap.size:=funext fun b=>propext ⟨fun h=>h.elim id (fun ⟨_,_,_,h,_⟩=>by cases h),.inl⟩
 rw [hown2] at hv2
 exact hr _ _ _ _ _ (hv2.less h2 fun b hb=>Nat.lt_of_lt_of_le hb K.size)
theorem PfF.lend (h:PfF P f args' r) (d:Nat) (ha:args.map (frz [] H d)=args'):PfH P f args H r :=
 ⟨h.enters,fun F ι w cargs hv R=>by
  obtain ⟨a1,a2,_,_⟩:=ZE_ (H:=H) (H':=[]) d 0 ha (by simp) (by simp) F ι w cargs hv R
  refine (h.calls ι (Own F ι []) w cargs a2.own_lt a1).mono ?_
  rintro e w' ⟨cv,he,hr,rest⟩
  exact ⟨cv,he,hr ι _ R.own_lt,rest⟩⟩
theorem Xy_ {ι:E3} {O:Nat->Prop} {w:World} {g:Go.Fn} {fs cs:List V}:∀ {ds:List V} {xs:List Value},VRels ι O w (ds++[.fn g fs cs]) xs->∃ x,x.oneCell'=true/\VRels ι O w (ds++[.val x]) xs
 | [],_,.cons h .nil=>by
  cases h with
  | fn h1 h2=>exact ⟨_,rfl,.cons (.val _ rfl) .nil⟩
 | d::ds,_,.cons h hs=>by
  obtain ⟨x,hx,hr⟩:=Xy_ hs
  exact ⟨x,hx,.cons h hr⟩
theorem PfF.lendS {g:Go.Fn} {fs cs ds rest:List V} (h:∀ x:Value,x.oneCell'=true->PfF P f (.rp (ds++[.val x]) 0::rest) r) (d:Nat) (ha:args.map (frz [] H d)=.rp (ds++[.fn g fs cs]) 0::rest):PfH P f args H r :=
 ⟨(h .nilFunc rfl).enters,fun F ι w cargs hv R=>by
  obtain ⟨a1,a2,_,_⟩:=ZE_ (H:=H) (H':=[]) d 0 ha (by simp) (by simp) F ι w cargs hv R
  cases a1 with
  | cons b1 b2 =>
   cases b1 with
   | rp c1 c2 c3 c4 c5 c6 c7 c8 =>
    obtain ⟨x,hx,hr⟩:=Xy_ c7
    have hl:(ds++[V.fn g fs cs]).length=(ds++[V.val x]).length:=by simp
    have hone:(ds++[V.val x]).all V.one=true:=by
     rw [all_append,Bool.and_eq_true] at c4 ⊢
     exact ⟨c4.1,rfl⟩
    refine ((h x hx).calls ι (Own F ι []) w _ a2.own_lt (.cons (.rp c1 c2 c3 hone (by rw [<-hl];exact c5) (by rw [<-hl];exact c6) hr c8) b2)).mono ?_
    rintro e w' ⟨cv,he,hr,rest⟩
    exact ⟨cv,he,hr ι _ R.own_lt,rest⟩⟩
end
end Go.Sl
namespace Go.Sl
def zIz:B->Bool
 | .rows _ es=>es.all V.pureE
 | .map es=>es.all fun p=>p.1.pureE&&p.2.pureE
 | _=>false
def zJ0 (G:A8):Bool:=G.all fun p=>zIz p.2
section
variable {F O O':Nat->Prop} {ι:E3} {w:World} {P:Program}
theorem Z8_ {α:Type} {f:α->V}:∀ {l:List α} {xs:List Value},(∀ a∈l,(f a).pureE=true)->VRels ι O w (l.map f) xs->VRels ι O' w (l.map f) xs
 | [],_,_,.nil=>.nil
 | a::l,_,hp,.cons h hs=>.cons (Qp_ (hp a (.head _)) h) (Z8_ (fun b hb=>hp b (.tail _ hb)) hs)
theorem zFt {l:Loc} {B:B} (hp:zIz B=true) (h:BRel ι O w l B):BRel ι O' w l B:=by
 cases B with
 | rows sz es =>
  obtain ⟨b1,b2,b3,b4⟩:=h
  refine ⟨b1,b2,b3,?_⟩
  rcases b4 with b4|⟨b4,c,e,b5,b6,b7,b8⟩
  .exact .inl b4
  exact .inr ⟨b4,c,e,b5,b6,b7,u9 (Qq_ hp) b8⟩
 | map es =>
  obtain ⟨b1,b2,mes,b3,b4,b5,b6⟩:=h
  have hp':∀ p∈es,p.1.pureE=true/\p.2.pureE=true:=fun p hm=>by
   have:=List.all_eq_true.1 hp p hm
   rwa [Bool.and_eq_true] at this
  exact ⟨b1,b2,mes,b3,Z8_ (fun p hm=>(hp' p hm).1) b4,Z8_ (fun p hm=>(hp' p hm).2) b5,b6⟩
 | _=>cases hp
theorem Fn.lendP {f : FuncId} {args args' : List V} {L G G' : A8} {k : Nat} (d : Nat) (h : Fn P f args' G k fun v H' _ => v = .tup [] ∧ H' = G') (ha : args.map (frz (G.map Prod.fst) (L ++ G) d) = args') (hp : zJ0 G' = true) :
    Fn P f args (L++G) k fun v H' _=>v=.tup []/\H'=L++G':=by
  refine ⟨h.enters,fun F ι w cargs hv R hf=>?_⟩
  have hn:=R.names
  rw [map_append,nodup_append] at hn
  obtain ⟨n1,n2,n3⟩:=hn
  have hlook:∀ p∈G,look p.1 (L++G)=some p.2:=fun p hm=>I1 R.names (List.mem_append.2 (.inr hm))
  obtain ⟨a1,a2,a3,a4⟩:=ZE_ (H:=L++G) (H':=G) d 0 ha n2 (fun p hm=>⟨p.2,hlook p hm,by
    cases p.2 with
    | rows sz es=>simp [U9_,UE_,Y5_]
    | _=>rfl⟩) F ι w cargs hv R
  refine (h.calls F ι w cargs a1 a2 hf).mono ?_
  rintro e w' ⟨ι',v,cv,H',k',he,⟨rfl,rfl⟩,hO⟩
  have K:=hO.ext.kept
  have hLG:∀ b,OwnH ι G b->OwnH ι (L++G) b:=fun b ⟨n,B,l,hm,hl,hg,hb⟩=>⟨n,B,l,List.mem_append.2 (.inr hm),hl,hg,hb⟩
  -- the names of what is lent stay
  have hL:∀ n B,(n,B)∈L->∃ l,ι n=some l/\ι' n=some l/\BRel ι (Own F ι (L++G)) w l B/\(l.ghost=false->l.b<w.heap.size/\¬ F l.b):=fun n B hm=>by
    obtain ⟨l,hl,hB,hg⟩:=R.own n B (List.mem_append.2 (.inl hm))
    exact ⟨l,hl,K.le n l hl,hB,hg⟩
  have hold:∀ b,b<w.heap.size->OwnH ι' (L++H') b->OwnH ι (L++G) b:=fun b hb ⟨n,B,l,hm,hl,hg,he⟩=>by
    rcases List.mem_append.1 hm with hm|hm
    . obtain ⟨l0,h1,h2,_⟩:=hL n B hm
      rw [h2] at hl;cases hl
      exact ⟨n,B,l,List.mem_append.2 (.inl hm),h1,hg,he⟩
    exact hLG b (K.old b hb ⟨n,B,l,hm,hl,hg,he⟩)
  have KK:Kept ι (L++G) w ι' (L++H') w':=⟨K.le,K.os,K.tape,K.output,K.size,fun b hb hno=>K.stay b hb fun ho=>hno (hLG b ho),hold⟩
  -- a block that is lent is none of the state's
  have hapart:∀ n B l,(n,B)∈L->ι n=some l->l.ghost=false->¬ OwnH ι G l.b:=fun n B l hm hl hg ⟨m,C,l2,hm2,hl2,hg2,hb2⟩=>by
    refine R.apart n B m C l l2 (List.mem_append.2 (.inl hm)) (List.mem_append.2 (.inr hm2)) (fun e=>?_) hl hl2 hg hg2 hb2.symm
    exact n3 n (List.mem_map.2 ⟨(n,B),hm,rfl⟩) m (List.mem_map.2 ⟨(m,C),hm2,rfl⟩) e
  have S:Stays ι (Own F ι (L++G)) w ι' (Own F ι' (L++H')) w':=⟨K.le,K.size,fun b hb hno=>⟨fun ho=>by
    rcases ho with ho|ho
    . exact hno (.inl ho)
    exact hno (.inr (hold b hb ho)),K.stay b hb fun ho=>hno (.inr (hLG b ho))⟩⟩
  have hk:∀ n B,(n,B)∈L->n<k:=fun n B hm=>by
    obtain ⟨l,h1,_⟩:=hL n B hm
    refine Nat.lt_of_not_le fun hc=>?_
    rw [hf n hc] at h1;cases h1
  refine ⟨ι',.tup [],cv,L++H',k',he,⟨rfl,rfl⟩,⟨⟨KK,hO.ext.le,hO.ext.same,fun n hm=>?_⟩,⟨hO.rep.frame,?_,fun n B hm=>?_,fun n B m C l l' h1 h2 hne h3 h4 h5 h6=>?_⟩,hO.fresh,?_⟩⟩
  . rw [map_append,mem_append] at hm ⊢
    rcases hm with hm|hm
    . exact .inl (.inl hm)
    exact (hO.ext.dom n hm).imp .inr id
  . rw [map_append,nodup_append]
    refine ⟨n1,hO.rep.names,fun a ha b hb e=>?_⟩
    subst e
    obtain ⟨⟨n,B⟩,hm,rfl⟩:=List.mem_map.1 ha
    rcases hO.ext.dom _ hb with hd|hd
    . exact n3 _ ha _ hd rfl
    have:=hk n B hm
    have:=hd.2
    simp only at this;omega
  . rcases List.mem_append.1 hm with hm|hm
    . obtain ⟨l,h1,h2,hB,hg⟩:=hL n B hm
      refine ⟨l,h2,hB.stays S fun hgh=>K.stay _ (hg hgh).1 (hapart n B l hm h1 hgh),fun hgh=>⟨Nat.lt_of_lt_of_le (hg hgh).1 K.size,(hg hgh).2⟩⟩
    obtain ⟨l,hl,hB,hg⟩:=hO.rep.own n B hm
    exact ⟨l,hl,zFt (List.all_eq_true.1 hp _ hm) hB,hg⟩
  · have LG' : ∀ n B m C l l', (n, B) ∈ L → (m, C) ∈ H' → ι' n = some l → ι' m = some l' → l.ghost = false → l'.ghost = false → l.b ≠ l'.b := fun n B m C l l' h1 h2 h3 h4 h5 h6 e => by
      obtain ⟨l0,q1,q2,_,q4⟩:=hL n B h1
      rw [q2] at h3;cases h3
      exact hapart n B l h1 q1 h5 (K.old _ (q4 h5).1 ⟨m,C,l',h2,h4,h6,e.symm⟩)
    rcases List.mem_append.1 h1 with h1|h1
    . rcases List.mem_append.1 h2 with h2|h2
      . obtain ⟨l0,q1,q2,_⟩:=hL n B h1
        obtain ⟨l1,r1,r2,_⟩:=hL m C h2
        rw [q2] at h3;cases h3
        rw [r2] at h4;cases h4
        exact R.apart n B m C _ _ (List.mem_append.2 (.inl h1)) (List.mem_append.2 (.inl h2)) hne q1 r1 h5 h6
      exact LG' n B m C l l' h1 h2 h3 h4 h5 h6
    rcases List.mem_append.1 h2 with h2|h2
    . exact fun e=>LG' m C n B l' l h2 h1 h4 h3 h6 h5 e.symm
    exact hO.rep.apart n B m C l l' h1 h2 hne h3 h4 h5 h6
  have hv:=hO.val
  cases hv with
  | tup h=>cases h;exact .tup .nil
theorem U7 {f:FuncId} {args:List V} {A G G':A8} {k:Nat} {K:V->A8->Nat->Prop} {r:V} (h:Fn P f args G k fun v H' _=>v=r/\H'=G') (hk:∀ k',k<=k'->K r (A++G') k'):@x4 P f args (A++G) k ⟨K⟩:=by
 have h2:Fn P f args (A++G) k fun v H' k'=>∃ H'' v',View H' v H'' v'/\K v' H'' k' :=
  h.frame (G:=A) perm_append_comm fun v H' k' hle ⟨e1,e2⟩=>⟨A++G',r,e1▸e2▸View.perm perm_append_comm _,hk k' hle⟩
 exact Fn.view h2
end
end Go.Sl
namespace Go.Sl
section
variable {F O O':Nat->Prop} {ι:E3} {w:World} {P:Program} {A A' G G':A8}
theorem zD7 (n:Nat):∀ (A G:A8),look n (A++G)=if n∈A.map Prod.fst then look n A else look n G
 | [],G=>by simp
 | (m,b)::A,G=>by
  have ih:=zD7 n A G
  simp only [cons_append,look,map_cons,mem_cons]
  by_cases e:n=m
  .rw [if_pos e,if_pos (.inl e),if_pos e]
  rw [if_neg e,if_neg e,ih]
  by_cases h:n∈A.map Prod.fst
  .rw [if_pos h,if_pos (.inr h)]
  rw [if_neg h,if_neg (fun hc=>hc.elim e h)]
theorem zFu (hN : ((A ++ G).map Prod.fst).Nodup) (hA : ∀ n ∈ A'.map Prod.fst, n ∈ A.map Prod.fst) (n : Nat) :
    (n∈(A'++G).map Prod.fst/\(n∈A'.map Prod.fst\/look n A=none))\/(n∉(A'++G).map Prod.fst/\n∉A'.map Prod.fst/\look n (A++G)=look n A):=by
  rw [map_append,nodup_append] at hN
  obtain ⟨_,_,hd⟩:=hN
  by_cases h1:n∈A'.map Prod.fst
  . exact .inl ⟨by rw [map_append];exact List.mem_append.2 (.inl h1),.inl h1⟩
  by_cases h2:n∈G.map Prod.fst
  . exact .inl ⟨by rw [map_append];exact List.mem_append.2 (.inr h2),.inr (L4.2 fun h3=>hd n h3 n h2 rfl)⟩
  refine .inr ⟨by rw [map_append,mem_append];exact fun h=>h.elim h1 h2,h1,?_⟩
  rw [zD7]
  split
  . rfl
  rename_i h3;rw [L4.2 h2,L4.2 h3]
theorem Ze_ (hN:((A++G).map Prod.fst).Nodup) (hA:∀ n∈A'.map Prod.fst,n∈A.map Prod.fst):∀ (d:Nat),frz ((A'++G).map Prod.fst) (A++G) d=frz (A'.map Prod.fst) A d
 | 0=>rfl
 | d+1=>by
  have ih:=Ze_ hN hA d
  funext v
  have key:=zFu hN hA
  unfold frz
  rw [ih]
  cases v with
  | sl n q len =>
   dsimp only
   rcases key n with ⟨h1,h2⟩|⟨h1,h2,h3⟩
   .rw [if_pos h1]
    rcases h2 with h2|h2
    .rw [if_pos h2]
    rw [h2];simp
   rw [if_neg h1,if_neg h2,h3]
  | ptr n i j =>
   dsimp only
   rcases key n with ⟨h1,h2⟩|⟨h1,h2,h3⟩
   .rw [if_pos h1]
    rcases h2 with h2|h2
    .rw [if_pos h2]
    rw [h2];simp
   rw [if_neg h1,if_neg h2,h3]
  | sub n i j z len =>
   dsimp only
   rcases key n with ⟨h1,h2⟩|⟨h1,h2,h3⟩
   .rw [if_pos (.inl h1)]
    rcases h2 with h2|h2
    .rw [if_pos (.inl h2)]
    rw [h2];simp
   by_cases hz:z≠1
   .rw [if_pos (.inr hz),if_pos (.inr hz)]
   rw [if_neg (fun h=>h.elim h1 hz),if_neg (fun h=>h.elim h2 hz),h3]
  | _=>rfl
theorem zJ1 (hN:((A++G).map Prod.fst).Nodup) (hH:∀ p∈A',look p.1 A=some p.2):∀ p∈A'++G,∃ B,look p.1 (A++G)=some B/\U9_ ((A'++G).map Prod.fst) (A++G) 0 B=p.2:=fun p hp=>by
 have hz:∀ B:B,U9_ ((A'++G).map Prod.fst) (A++G) 0 B=B:=fun B=>by
  cases B with
  | rows sz es=>simp [U9_,UE_,Y5_]
  | _=>rfl
 refine ⟨p.2,?_,hz _⟩
 rcases List.mem_append.1 hp with hp|hp
 .exact I1 hN (List.mem_append.2 (.inl (D6 (hH p hp))))
 exact I1 hN (List.mem_append.2 (.inr hp))
theorem Z9_ (hN:((A++G).map Prod.fst).Nodup) (hn:(A'.map Prod.fst).Nodup) (hA:∀ n∈A'.map Prod.fst,n∈A.map Prod.fst):((A'++G).map Prod.fst).Nodup:=by
 rw [map_append,nodup_append] at hN ⊢
 exact ⟨hn,hN.2.1,fun a ha b hb=>hN.2.2 a (hA a ha) b hb⟩
theorem zD8 (hH:∀ p∈A',look p.1 A=some p.2):∀ n∈A'.map Prod.fst,n∈A.map Prod.fst:=fun n hn=>by
 obtain ⟨p,hp,rfl⟩:=List.mem_map.1 hn
 exact List.mem_map.2 ⟨(p.1,p.2),D6 (hH p hp),rfl⟩
theorem Weaker.fzT {N k k' : Nat} {t t' : List (Nat × V)} (A A' G : A8) (d : Nat) (hk : k ≤ k') (ht : ∀ p ∈ t', frz (A'.map Prod.fst) A d (get t p.1) = p.2) (hn : (A'.map Prod.fst).Nodup)
    (hH:∀ p∈A',look p.1 A=some p.2):Weaker ⟨N,t,A++G,k⟩ ⟨N,t',A'++G,k'⟩ :=
  ⟨fun F ι a w hh=>by
    have hN:=hh.rep.names
    simp only [] at hN
    have hA:=zD8 hH
    exact (Weaker.fzk (H:=A++G) (H':=A'++G) d 0 hk (fun p hp=>by rw [Ze_ hN hA];exact ht p hp) (Z9_ hN hn hA) (zJ1 hN hH)).h F ι a w hh⟩
theorem VO_ {f : FuncId} {args args' : List V} {k : Nat} {K : V → A8 → Nat → Prop} {r : V} (A A' : A8) (G : A8) (d : Nat) (h : Fn P f args' G k fun v H' _ => v = r ∧ H' = G') (ha : args.map (frz (A'.map Prod.fst) A d) = args') (hn : (A'.map Prod.fst).Nodup)
    (hH:∀ p∈A',look p.1 A=some p.2) (hk:∀ k',k<=k'->K r (A'++G') k'):@x4 P f args (A++G) k ⟨K⟩:=by
  have h2:Fn P f args' (A'++G) k K:=U7 h hk
  refine ⟨h2.enters,fun F ι w cargs hv R hf=>?_⟩
  have hN:=R.names
  have hA:=zD8 hH
  obtain ⟨a1,a2,a3,a4⟩:=ZE_ (H:=A++G) (H':=A'++G) (args':=args') d 0 (by rw [Ze_ hN hA];exact ha) (Z9_ hN hn hA) (zJ1 hN hH) F ι w cargs hv R
  refine (h2.calls F ι w cargs a1 a2 hf).mono ?_
  rintro e w' ⟨ι',v,cv,H2,k',he,hr,hO⟩
  exact ⟨ι',v,cv,H2,k',he,hr,⟨⟨a3.trans hO.ext.kept,hO.ext.le,hO.ext.same,fun n hn=>(hO.ext.dom n hn).imp (a4 n) id⟩,hO.rep,hO.fresh,hO.val⟩⟩
theorem View.tail (A G:A8) (v:V):View (A++G) v G v:=View.drop v A
theorem zD9 {g:FuncId} {args:List V} {H:A8} {k:Nat} {K:V->A8->Nat->Prop} {r:V} (h:PfH P g args H r) (hk:K r H k):@x4 P g args H k ⟨K⟩:=h.fn hk
theorem zmu {g:FuncId} {args:List V} {H:A8} {K:V->Prop} {r:V} (h:PfH P g args H r) (k:K r):@zHs P g args H ⟨K⟩:=⟨r,h,k⟩
theorem Pf.hide {f:FuncId} {g:Go.Fn} {fs cs ds rest:List V} {r:V} (h:∀ x:Value,x.oneCell'=true->Pf P f (.rp (ds++[.val x]) 0::rest) r):Pf P f (.rp (ds++[.fn g fs cs]) 0::rest) r :=
 ⟨(h .nilFunc rfl).enters,fun ι O w cargs hO hv=>by
  cases hv with
  | cons b1 b2 =>
   cases b1 with
   | rp c1 c2 c3 c4 c5 c6 c7 c8 =>
    obtain ⟨x,hx,hr⟩:=Xy_ c7
    have hl:(ds++[V.fn g fs cs]).length=(ds++[V.val x]).length:=by simp
    have hone:(ds++[V.val x]).all V.one=true:=by
     rw [all_append,Bool.and_eq_true] at c4 ⊢
     exact ⟨c4.1,rfl⟩
    exact (h x hx).calls ι O w _ hO (.cons (.rp c1 c2 c3 hone (by rw [<-hl];exact c5) (by rw [<-hl];exact c6) hr c8) b2)⟩
end
end Go.Sl
namespace Go.Sl
open Go.Proofs (CmpLays SWK)
open Go.Sort (HoldsK)
theorem Qr_ {P:Program} {f:FuncId} (h:Enters P f):Go.Proofs.Enters P f:=by
 obtain ⟨fn,hf,hn,hb⟩:=h
 cases hc:fn.body with
 | none=>rw [hc] at hb;cases hb
 | some c=>exact Go.Proofs.enters_of hf hn hc
theorem Xz_ {ι:E3} {O:Nat->Prop} {w:World} {vs:List Value} (h:∀ v∈vs,v.oneCell'=true):VRels ι O w (vs.map .val) vs:=by
 induction vs with
 | nil=>exact .nil
 | cons v vs ih=>exact .cons (.val _ (h v (.head _))) (ih fun v hv=>h v (.tail _ hv))
theorem Ye_ {ι:E3} {O:Nat->Prop} {w:World}:∀ {vs xs:List Value},VRels ι O w (vs.map .val) xs->xs=vs
 | [],_,.nil=>rfl
 | v::vs,_,.cons h hs=>by cases h;rw [Ye_ hs]
def q6 {α:Type} (enc:α->List Value) (x:α):V:=.agg ((enc x).map .val)
section
variable {α:Type} [Inhabited α] {enc:α->List Value} {K:Nat}
omit [Inhabited α] in
theorem VP_ (l:List α):(l.map (q6 enc)).flatMap V.cells=(l.flatMap enc).map .val:=by
 induction l with
 | nil=>rfl
 | cons x l ih=>simp only [map_cons,flatMap_cons,map_append,ih];rfl
omit [Inhabited α] in
theorem zPm (hk:∀ x,(enc x).length=K) (l:List α):(l.flatMap enc).length=l.length*K:=by
 induction l with
 | nil=>simp
 | cons x l ih=>simp [ih,hk,Nat.add_mul,Nat.add_comm]
theorem UI_ (hk:∀ x,(enc x).length=K):∀ (l:List α) (j:Nat),j<l.length*K->(l.flatMap enc)[j]?=some ((enc (l.toArray[j / K]!))[j % K]!)
 | [],j,h=>by simp at h
 | x::l,j,h=>by
  have hK:0<K:=Nat.pos_of_ne_zero fun e=>by subst e;simp at h
  simp only [flatMap_cons]
  by_cases hj:j<K
  .rw [List.getElem?_append_left (by rw [hk];exact hj),Nat.div_eq_of_lt hj,Nat.mod_eq_of_lt hj]
   simp [hk,hj]
  rw [List.getElem?_append_right (by rw [hk];omega),hk]
  have h':j-K<l.length*K:=by simp only [length_cons,Nat.add_mul,Nat.one_mul] at h;omega
  rw [UI_ hk l (j-K) h']
  have e1:j / K=(j-K) / K+1:=by rw [Nat.div_eq_sub_div hK (by omega)]
  have e2:j % K=(j-K) % K:=by rw [Nat.mod_eq_sub_mod (by omega)]
  rw [e1,e2]
  simp
theorem zFv (hk:∀ x,(enc x).length=K) (l:List α):(Go.Sort.flatK enc K l.toArray).toList=l.flatMap enc:=by
 apply List.ext_getElem?
 intro j
 by_cases hj:j<l.length*K
 .rw [UI_ hk l j hj]
  have hs:j<(Go.Sort.flatK enc K l.toArray).size:=by simpa using hj
  rw [List.getElem?_eq_getElem (by simpa using hs),Array.getElem_toList,<-getElem!_pos _ j hs,Go.Sort.get_flatK _ _ _ _ (by simpa using hj)]
 rw [List.getElem?_eq_none (by simp;omega),List.getElem?_eq_none (by rw [zPm hk];omega)]
theorem UJ_ (off:Nat) (d:Array Value) (c:Array Value) (h:off+d.size<=c.size):((Go.Sort.putCells id off d c).toList.drop off).take d.size=d.toList:=by
 apply List.ext_getElem?
 intro j
 by_cases hj:j<d.size
 .rw [List.getElem?_take_of_lt hj,List.getElem?_drop,Array.getElem?_toList,Go.Sort.putCells,Array.getElem?_mapIdx,Array.getElem?_eq_getElem (by omega),Option.map_some,if_pos ⟨by omega,by omega⟩,
   show off+j-off=j by omega,getElem!_pos d j hj,Array.getElem?_toList,Array.getElem?_eq_getElem hj]
  rfl
 rw [List.getElem?_eq_none (by simp;omega),List.getElem?_eq_none (by simp;omega)]
theorem zfm {P : Program} {ρ : Go.Shelf.Ren} (L : Go.Proofs.SlLaysF0.n14 P ρ) (aE : ∀ w, (isAgg (ρ.t 24)).run P w = .ok true w) (zE : ∀ w, (Go.sizeOf (ρ.t 24)).run P w = .ok K w) (hk : ∀ x, (enc x).length = K) (h1 : ∀ x, ∀ v ∈ enc x, v.oneCell' = true)
    (cf:α->α->Int) (hO:Go.Sort.SWO (Go.Proofs.ltOf cf)) (g:Nat) (hc:∀ x y,Pf P g [q6 enc x,q6 enc y] (.val (.int .i64 (cf x y)))) (r k:Nat) (l:List α) (hl0:l≠[]) (hl:l.length<4611686018427387904) (lim:Nat) (hlim:lim<4611686018427387904) :
    Fn P (ρ.f 14) [.sl r 0 l.length,.val (.int .i64 0),.val (.int .i64 (l.length:Nat)),.val (.int .i64 (lim:Nat)),.fn (.func g) [] []] [(r,.rows K (l.map (q6 enc)))] k
      fun v H' _=>v=.tup []/\∃ l':List α,l'.Perm l/\(l'.Pairwise fun a b=>Go.Proofs.ltOf cf b a=false)/\H'=[(r,.rows K (l'.map (q6 enc)))]:=by
  obtain ⟨nm14,hnm14,F14⟩:=L.f14
  refine ⟨⟨_,F14,hnm14,rfl⟩,fun F ι w cargs hv R hf=>?_⟩
  obtain ⟨lo,hlo,⟨hsz,hmp,hfit,hcells⟩,hin⟩:=R.own r _ (.head _)
  generalize hn:l.length=n at hv
  rcases hv with _|⟨v0,_|⟨v1,_|⟨v2,_|⟨v3,_|⟨v4,_|_⟩⟩⟩⟩⟩
  cases v1;cases v2;cases v3
  cases v4 with|fn q1 q2=>?_
  cases q1;cases q2
  have hn0:n≠0:=fun e=>hl0 (eq_nil_of_length_eq_zero (hn.trans e))
  cases v0 with
  | sl0=>exact absurd rfl hn0
  | sl e1 hg hm ho h0 hle hcp hs=>?_
  rename_i off cap l1
  obtain rfl:lo=l1:=by rw [hlo] at e1;exact Option.some.inj e1
  rcases hcells with ⟨hgh,_⟩|⟨_,c,e,hw,hcs,hoc,hrel⟩
  . rw [hg] at hgh;cases hgh
  simp only [Nat.zero_mul,Nat.add_zero] at ho
  subst ho
  rw [VP_] at hrel
  have hflat:=Ye_ hrel
  rw [length_map] at hflat hoc
  rw [hsz] at hs
  have hd:l.toArray.size=n:=by simpa using hn
  obtain ⟨hblk,hnF⟩:=hin hg
  have hH:HoldsK enc K w lo.b lo.o l.toArray:=by
    intro j hj
    have hj':j<l.length*K:=by simpa using hj
    have hlt:lo.o+j<c.size:=by omega
    refine ⟨?_,by simp [World.frozen?,hw]⟩
    have:c[lo.o+j]?=(l.flatMap enc)[j]?:=by
      rw [<-hflat,List.getElem?_take_of_lt hj',List.getElem?_drop,Array.getElem?_toList]
    simp only [World.cell?,hw,Option.isSome_none]
    rw [if_neg (by simp),this,UI_ hk l j hj',Go.Sort.get_flatK _ _ _ _ (by simpa using hj')]
    rfl
  have hcmp:CmpLays P g #[] enc K cf lo.b lo.o l.toArray.size w:=by
    intro m os dk _ x y
    have:=(hc x y).calls (fun _=>none) (fun _=>False) (Go.Proofs.sortWorldK enc K w lo.b lo.o m dk os) [.agg (enc x).toArray,.agg (enc y).toArray] (fun _ h=>h.elim) (.cons (.agg (Xz_ (h1 x))) (.cons (.agg (Xz_ (h1 y))) .nil))
    refine (show Calls P g (#[.agg (enc x).toArray,.agg (enc y).toArray]++#[]) _ _ from this).mono ?_
    rintro e' w' ⟨cv,he,hv,ho',ht,hu,hs',hb⟩
    cases hv
    refine ⟨he,w'.drawn-(Go.Proofs.sortWorldK enc K w lo.b lo.o m dk os).drawn,w'.heap.extract (Go.Proofs.sortWorldK enc K w lo.b lo.o m dk os).heap.size w'.heap.size,?_⟩
    generalize hW:Go.Proofs.sortWorldK enc K w lo.b lo.o m dk os=W at ho' ht hu hs' hb ⊢
    obtain ⟨ht1,ht2⟩:=ht
    have hheap:w'.heap=W.heap++w'.heap.extract W.heap.size w'.heap.size:=by
      apply Array.ext_getElem?
      intro i
      by_cases hi:i<W.heap.size
      . rw [Array.getElem?_append_left hi,hb i hi]
      rw [Array.getElem?_append_right (by omega)]
      by_cases hi2:i<w'.heap.size
      . rw [Array.getElem?_extract]
        rw [if_pos (by omega),show W.heap.size+(i-W.heap.size)=i by omega]
      rw [Array.getElem?_eq_none (by omega),Array.getElem?_eq_none (by simp;omega)]
    have hdr:w'.drawn=W.drawn+(w'.drawn-W.drawn):=by omega
    cases w';cases W
    simp only [Go.Sort.grow,World.drewN] at *
    subst ho' ht1 hu
    rw [<-hheap,<-hdr]
  have main:=Go.Proofs.AnyQ.pdqsortCmpFunc_all L K aE zE enc cf g #[] hO lo.b lo.o cap l.toArray w (Qr_ (hc default default).enters) hcmp ⟨hk,h1,hH,hblk⟩ (n+1) 0 n lim l.toArray w (by omega) rfl (SWK.start hH) (Nat.zero_le _) (by rw [hd];exact Nat.le_refl _) (by rw [hd];omega) hlim (.inl rfl)
  rw [hd] at main
  refine (show Calls P (ρ.f 14) _ w _ from main).mono ?_
  rintro e' w' ⟨he,m,os,hw'⟩
  obtain ⟨hp,hsd⟩:=Go.Sort.pdq_sorts (Go.Proofs.ltOf cf) hO l.toArray 0 l.toArray.size lim true true (Nat.zero_le _) (Nat.le_refl _) (.inl rfl)
  rw [<-hd] at hw'
  generalize Go.Sort.pdq (Go.Proofs.ltOf cf) l.toArray 0 l.toArray.size lim true true=d' at hp hsd hw'
  obtain ⟨hps,-,hpm⟩:=hp
  obtain ⟨l',rfl⟩:∃ l':List α,d'=l'.toArray:=⟨d'.toList,by simp⟩
  have hlen:l'.length=l.length:=by simpa using hps
  have hperm:l'.Perm l:=by
    have:(l'.toArray.extract 0 l.toArray.size).toList=l':=by simp [<-hlen]
    rw [this] at hpm
    simpa using hpm
  have hstay:∀ i,i<w.heap.size->i≠lo.b->w'.heap[i]?=w.heap[i]?:=by
    intro i hi hne
    rw [hw']
    simp only [Go.Proofs.sortWorldK,Go.Sort.grow,Go.Sort.putRowK,Go.Sort.putRow,Go.Sort.mapBlock,Go.Sort.ahead]
    rw [Array.getElem?_append_left (by simpa using hi),Array.getElem?_modify,if_neg (Ne.symm hne)]
  have hsize:w.heap.size<=w'.heap.size:=by
    rw [hw']
    simp [Go.Proofs.sortWorldK,Go.Sort.grow,Go.Sort.putRowK,Go.Sort.putRow,Go.Sort.mapBlock,Go.Sort.ahead]
  have hblk':w'.heap[lo.b]?=some (.cells (Go.Sort.putCells id lo.o (Go.Sort.flatK enc K l'.toArray) c) e (0,0)):=by
    rw [hw']
    simp only [Go.Proofs.sortWorldK,Go.Sort.grow,Go.Sort.putRowK,Go.Sort.putRow,Go.Sort.mapBlock,Go.Sort.ahead]
    rw [Array.getElem?_append_left (by simpa using hblk),Array.getElem?_modify,if_pos rfl,hw]
    rfl
  have ho':w'.os=w.os:=by rw [hw'];rfl
  have ht':Tp w w':=by rw [hw'];exact ⟨rfl,Nat.le_add_right _ _⟩
  have hu':w'.output=w.output:=by rw [hw'];rfl
  have hB:∀ O',Stays ι (Own F ι [(r,.rows K (l.map (q6 enc)))]) w ι O' w'->BRel ι O' w' lo (.rows K (l'.map (q6 enc))):=by
    intro O' _
    refine ⟨hsz,hmp,?_,.inr ⟨hg,_,e,hblk',?_,?_,?_⟩⟩
    . intro v hv
      obtain ⟨x,_,rfl⟩:=List.mem_map.1 hv
      simp [q6,V.fits,V.cells,hk,V.one]
    . simpa [Go.Sort.putCells] using hcs
    . simpa [Go.Sort.putCells,hlen] using hoc
    rw [VP_,length_map]
    have e2:((Go.Sort.putCells id lo.o (Go.Sort.flatK enc K l'.toArray) c).toList.drop lo.o).take (l'.length*K)=l'.flatMap enc:=by
      have:=UJ_ lo.o (Go.Sort.flatK enc K l'.toArray) c (by simpa [hlen] using hoc)
      rw [zFv hk,Go.Sort.size_flatK] at this
      simpa using this
    rw [e2]
    refine Xz_ fun v hv=>?_
    obtain ⟨x,_,hx⟩:=List.mem_flatMap.1 hv
    exact h1 x v hx
  have R':=R.put (.head _) hlo hg ho' ht' hu' hsize hstay hB
  have K':=f9 (b':=.rows K (l'.map (q6 enc))) (.head _) hlo hg R.names ho' ht' hu' hsize hstay
  have hput:put r (.rows K (l'.map (q6 enc))) [(r,.rows K (l.map (q6 enc)))]=[(r,.rows K (l'.map (q6 enc)))]:=by simp [put]
  rw [hput] at R' K'
  refine ⟨ι,.tup [],.tuple #[],_,k,he,⟨rfl,l',hperm,?_,rfl⟩,⟨K',Nat.le_refl _,fun _ _=>rfl,fun n hn=>.inl (by simpa using hn)⟩,R',fun n _=>hf n,.tup .nil⟩
  rw [pairwise_iff_getElem]
  intro i j hi hj hij
  have:=hsd i j (Nat.zero_le _) hij (by simpa [hlen] using hj)
  rwa [getElem!_pos _ j (by simpa using hj),getElem!_pos _ i (by simpa using hi),getElem_toArray,getElem_toArray] at this
end
end Go.Sl
namespace Go.Sl
section
variable {A A' G H H':A8}
theorem zJ2 (hN:((A++G).map Prod.fst).Nodup) (hA:∀ n∈A'.map Prod.fst,n∈A.map Prod.fst) (d:Nat) (B:B):U9_ ((A'++G).map Prod.fst) (A++G) d B=U9_ (A'.map Prod.fst) A d B:=by
 cases B with
 | rows sz es=>unfold U9_;rw [Ze_ hN hA]
 | _=>rfl
theorem Weaker.fzP {N k k' : Nat} {t t' : List (Nat × V)} (A A' G : A8) (d dh : Nat) (hG : ∀ S H, ∀ p ∈ G, U9_ S H dh p.2 = p.2) (hk : k ≤ k') (ht : ∀ p ∈ t', frz (A'.map Prod.fst) A d (get t p.1) = p.2) (hn : (A'.map Prod.fst).Nodup)
    (hA:∀ n∈A'.map Prod.fst,n∈A.map Prod.fst) (hH:∀ p∈A',∃ B,look p.1 A=some B/\U9_ (A'.map Prod.fst) A dh B=p.2):Weaker ⟨N,t,A++G,k⟩ ⟨N,t',A'++G,k'⟩ :=
  ⟨fun F ι a w hh=>by
    have hN:=hh.rep.names
    simp only [] at hN
    refine (Weaker.fzk (H:=A++G) (H':=A'++G) d dh hk (fun p hp=>by rw [Ze_ hN hA];exact ht p hp) (Z9_ hN hn hA) (fun p hp=>?_)).h F ι a w hh
    rcases List.mem_append.1 hp with hp|hp
    . obtain ⟨B,h1,h2⟩:=hH p hp
      exact ⟨B,I1 hN (List.mem_append.2 (.inl (D6 h1))),by rw [zJ2 hN hA];exact h2⟩
    exact ⟨p.2,I1 hN (List.mem_append.2 (.inr hp)),hG _ _ p hp⟩⟩
end
section
variable {P:Program} {T:Tab} {fr:Nat->Prop} {σ:St}
theorem zJ3 {o : Oper} {K : V → A8 → Nat → Prop} (t u : TypeId) (x y : Operand) (ho : o.op = .binOp .eql t x y u) {ti : TI} (hti : C8 P t = some ti) {e : TypeId} (hd : ti.d = .pointer e) (hx : A7 σ.t x = .val (.pointer none)) (hy : A7 σ.t y = .val (.pointer none))
    (hk:K (.val (.bool true)) σ.H σ.k):OpT fr P o σ K:=by
  obtain ⟨u',i,z,hu,_,_,_,_,h1,_⟩:=D3 hti
  have hu':∃ e',P.underlying t=some (.pointer e'):=by rw [hu];cases u'<;>simp_all [Go.Sl.D.of]
  obtain ⟨e',hu'⟩:=hu'
  have hp:P.underlying t=some (.pointer (P.pointee t)):=by simp [Program.pointee,hu']
  refine C5 hk fun F ι a w hh=>?_
  have he:=hh.eval x
  have hi:=hh.eval y
  rw [hx] at he
  rw [hy] at hi
  have he:=he.inv_val
  have hi:=hi.inv_val
  refine ⟨_,?_,.val _ rfl⟩
  unfold execOp;rw [ho]
  have g:∀ op:BinOp,(eqGuard op t x y (.pointer none) (.pointer none)).run P w=.ok () w:=fun op=>by cases op<;>simp [eqGuard]
  simp only [he,hi,Sem.run_bind,g,Result.andThen_ok,Go.run_eql_pointer_nil w t none hp,Sem.run_pure];rfl
theorem zXb {ops:Array Oper} {o:Oper} {l:List Oper} {K:St->Prop} {N k d:Nat} {t:List (Nat × V)} {H:A8} (x:Operand) (ho:o.op=.move x\/o.op=.assign x) (hg:o.guard=none) (hdst:o.dst=some d) (hd:d<N) (h:TrL P ops l K ⟨N,(d,A7 t x)::t,H,k⟩):TrL P ops (o::l) K ⟨N,t,H,k⟩ :=
 zIx hg (by rw [hdst];exact hd) (Jz_ x ho (by rw [hdst];exact h))
theorem zXc {ops : Array Oper} {o : Oper} {l : List Oper} {K : St → Prop} {N k d : Nat} {t : List (Nat × V)} {H : A8} (ty u : TypeId) (x y : Operand) (ho : o.op = .binOp .eql ty x y u) (hg : o.guard = none) (hdst : o.dst = some d) (hd : d < N) {ti : TI} (hti : C8 P ty = some ti) {e : TypeId} (he : ti.d = .pointer e)
    (hx:A7 t x=.val (.pointer none)) (hy:A7 t y=.val (.pointer none)) (h:TrL P ops l K ⟨N,(d,.val (.bool true))::t,H,k⟩):TrL P ops (o::l) K ⟨N,t,H,k⟩ :=
  zIx hg (by rw [hdst];exact hd) (zJ3 ty u x y ho hti he hx hy (by rw [hdst];exact h))
theorem Zf_ {α:Type} {I:α->Prop} {G:α->A8} {H:A8} {f:FuncId} {args:List V} {k:Nat} {K:V->A8->Nat->Prop} {r:V} (h:Fn P f args H k fun v H' _=>∃ a,I a/\v=r/\H'=G a) (hK:∀ k' a,k<=k'->I a->K r (G a) k'):@x4 P f args H k ⟨K⟩ :=
 show Fn P f args H k K from h.frame (Hf:=H) (G:=[]) (by rw [append_nil]) fun v H' k' hk ⟨a,e1,e2,e3⟩=>by rw [append_nil,e2,e3];exact hK k' a hk e1
end
end Go.Sl
namespace Go.Proofs.YtmpbalepefpllaaGreat
open Go Go.Sl
structure Vl where
 k:Bool
 v:Int
deriving DecidableEq
def vlC (x:Vl):V:=.agg [bV x.k,uV x.v]
def q7 (x:Vl):Vl:=if x.k then x else ⟨false,0⟩
def zNk (a b:Vl):Vl:=⟨a.k&&b.k,IntKind.u64.wrap (a.v+b.v)⟩
structure Wk where
 regs:Nat->Vl
 hangs:Nat->Int
 path:Int
 left:Int
 lr:Int
 lrLoc:Int
def q8 (g:Nat->Vl):List V:=(List.range 8).flatMap fun r=>[bV (g r).k,uV (g r).v]
def J0 (h:Nat->Int):List V:=(List.range 8).map fun r=>uV (h r)
def wkC (f:V) (x:Wk):List V:=f::(q8 x.regs++(J0 x.hangs++[uV x.path,uV x.left,iV x.lr,iV x.lrLoc]))
theorem lt8 {r:Nat} (h:r<8):r=0\/r=1\/r=2\/r=3\/r=4\/r=5\/r=6\/r=7:=by omega
section
variable {f:V} {x:Wk} {r:Nat}
@[go_sem high] theorem zoe:(wkC f x).length=29:=Eq.trans rfl rfl
@[go_sem high] theorem zXd (hf:f.one=true):(V.agg (wkC f x)).fits 29=true:=by
 rw [C9]
 refine ⟨rfl,fun c hc=>?_⟩
 simp only [V.cells,wkC,mem_cons,mem_append,q8,J0,mem_flatMap,mem_map,not_mem_nil,or_false] at hc
 rcases hc with rfl|⟨_,_,rfl|rfl⟩|⟨_,_,rfl⟩|rfl|rfl|rfl|rfl<;>first|exact hf|rfl
@[go_sem high] theorem zsh:F5 false 1 (wkC f x) 0=f:=Eq.trans rfl rfl
@[go_sem high] theorem zmv:F5 false 1 (wkC f x) 25=uV x.path:=Eq.trans rfl rfl
@[go_sem high] theorem zmw:F5 false 1 (wkC f x) 26=uV x.left:=Eq.trans rfl rfl
@[go_sem high] theorem zrb:F5 false 1 (wkC f x) 27=iV x.lr:=Eq.trans rfl rfl
@[go_sem high] theorem zjb:F5 false 1 (wkC f x) 28=iV x.lrLoc:=Eq.trans rfl rfl
@[go_sem high] theorem zmx:F5 true 16 (wkC f x) 1=.agg (q8 x.regs):=Eq.trans rfl rfl
@[go_sem high] theorem zof (h:r<8):F5 true 2 (wkC f x) (1+r*2)=.agg [bV (x.regs r).k,uV (x.regs r).v]:=by
 rcases lt8 h with rfl|rfl|rfl|rfl|rfl|rfl|rfl|rfl<;>rfl
@[go_sem high] theorem zmy (h:r<8):F5 false 1 (wkC f x) (17+r)=uV (x.hangs r):=by
 rcases lt8 h with rfl|rfl|rfl|rfl|rfl|rfl|rfl|rfl<;>rfl
@[go_sem high] theorem zjc {n:Int}:B2 (.agg (wkC f x)) 25 (uV n)=.agg (wkC f { x with path:=n }):=Eq.trans rfl rfl
@[go_sem high] theorem zjd {n:Int}:B2 (.agg (wkC f x)) 26 (uV n)=.agg (wkC f { x with left:=n }):=Eq.trans rfl rfl
@[go_sem high] theorem zog {n:Int}:B2 (.agg (wkC f x)) 27 (iV n)=.agg (wkC f { x with lr:=n }):=Eq.trans rfl rfl
@[go_sem high] theorem zfn {n:Int}:B2 (.agg (wkC f x)) 28 (iV n)=.agg (wkC f { x with lrLoc:=n }):=Eq.trans rfl rfl
@[go_sem high] theorem zmz {a:Bool} {b:Int} (h:r<8):B2 (.agg (wkC f x)) (1+r*2) (.agg [bV a,uV b])=.agg (wkC f { x with regs:=fun q=>if q=r then ⟨a,b⟩ else x.regs q }):=by
 rcases lt8 h with rfl|rfl|rfl|rfl|rfl|rfl|rfl|rfl<;>rfl
@[go_sem high] theorem zfo {a:Bool} (h:r<8):B2 (.agg (wkC f x)) (1+r*2) (bV a)=.agg (wkC f { x with regs:=fun q=>if q=r then ⟨a,(x.regs r).v⟩ else x.regs q }):=by
 rcases lt8 h with rfl|rfl|rfl|rfl|rfl|rfl|rfl|rfl<;>rfl
@[go_sem high] theorem zje {n:Int} (h:r<8):B2 (.agg (wkC f x)) (17+r) (uV n)=.agg (wkC f { x with hangs:=fun q=>if q=r then n else x.hangs q }):=by
 rcases lt8 h with rfl|rfl|rfl|rfl|rfl|rfl|rfl|rfl<;>rfl
@[go_sem high] theorem zfp {g:Nat->Vl}:(q8 g).length=16:=Eq.trans rfl rfl
@[go_sem high] theorem zFw {g:Nat->Vl}:(V.agg (q8 g)).fits 16=true:=Eq.trans rfl rfl
@[go_sem high] theorem zfq {g:Nat->Vl}:F5 true 16 (q8 g) 0=.agg (q8 g):=Eq.trans rfl rfl
@[go_sem high] theorem zfr {g:Nat->Vl} (h:r<8):F5 true 2 (q8 g) (r*2)=.agg [bV (g r).k,uV (g r).v]:=by
 rcases lt8 h with rfl|rfl|rfl|rfl|rfl|rfl|rfl|rfl<;>rfl
end
theorem zXe (g:Nat->Vl):NLs (q8 g):=fun v hv=>by
 obtain ⟨a,_,h⟩:=List.mem_flatMap.1 hv
 simp at h
 rcases h with rfl|rfl<;>exact .val _
def iVs (l:List Int):List V:=l.map iV
def uVs (l:List Int):List V:=l.map uV
def bVs (l:List Bool):List V:=l.map bV
def vls (l:List Vl):List V:=l.map vlC
@[go_sem] theorem zXf (l:List Int):(iVs l).length=l.length:=length_map ..
@[go_sem] theorem zn0 (l:List Int):(uVs l).length=l.length:=length_map ..
@[go_sem] theorem zn1 (l:List Bool):(bVs l).length=l.length:=length_map ..
@[go_sem] theorem zn2 (l:List Vl):(vls l).length=l.length:=length_map ..
@[go_sem] theorem zfs (l:List Int) (i:Nat):(iVs l)[i]?=l[i]?.map iV:=List.getElem?_map ..
@[go_sem] theorem zoh (l:List Bool) (i:Nat):(bVs l)[i]?=l[i]?.map bV:=List.getElem?_map ..
@[go_sem] theorem zoi (l:List Vl) (i:Nat):(vls l)[i]?=l[i]?.map fun x=>V.agg [bV x.k,uV x.v]:=List.getElem?_map ..
@[go_sem] theorem zn3 (l:List Int) (i:Nat) (h:i<(iVs l).length):(iVs l)[i]=iV (l[i]'(by simpa [iVs] using h)):=by simp [iVs]
@[go_sem] theorem zn4 (l:List Int) (i:Nat) (h:i<(uVs l).length):(uVs l)[i]=uV (l[i]'(by simpa [uVs] using h)):=by simp [uVs]
@[go_sem] theorem zn5 (l:List Bool) (i:Nat) (h:i<(bVs l).length):(bVs l)[i]=bV (l[i]'(by simpa [bVs] using h)):=by simp [bVs]
@[go_sem] theorem zn6 (l:List Vl) (i:Nat) (h:i<(vls l).length):(vls l)[i]=.agg [bV (l[i]'(by simpa [vls] using h)).k,uV (l[i]'(by simpa [vls] using h)).v]:=by simp [vls,vlC]
@[go_sem] theorem zAp (l:List Int) (i:Nat) (n:Int):(iVs l).set i (iV n)=iVs (l.set i n):=(map_set ..).symm
@[go_sem] theorem zn7 (l:List Int) (i:Nat) (n:Int):(uVs l).set i (uV n)=uVs (l.set i n):=(map_set ..).symm
@[go_sem] theorem zn8 (l:List Vl) (i:Nat) (a:Bool) (b:Int):(vls l).set i (.agg [bV a,uV b])=vls (l.set i ⟨a,b⟩):=(map_set (f:=vlC) (l:=l) (i:=i) (a:=⟨a,b⟩)).symm
theorem zJ4 (n:Nat):List.replicate n (iV 0)=iVs (List.replicate n 0):=by simp [iVs]
theorem zJ5 (n:Nat):List.replicate n (uV 0)=uVs (List.replicate n 0):=by simp [uVs]
theorem X0_ (n:Nat):List.replicate n (V.agg [bV false,uV 0])=vls (List.replicate n ⟨false,0⟩):=by simp [vls,vlC]
theorem Qs_ (l:List Int):NL (.ro 1 (iVs l)):=.ro fun v hv=>by obtain ⟨a,_,rfl⟩:=List.mem_map.1 hv;exact .cons (.val _) .nil
theorem X1_ (l:List Int):NL (.ro 1 (uVs l)):=.ro fun v hv=>by obtain ⟨a,_,rfl⟩:=List.mem_map.1 hv;exact .cons (.val _) .nil
theorem zSs (l:List Bool):NL (.ro 1 (bVs l)):=.ro fun v hv=>by obtain ⟨a,_,rfl⟩:=List.mem_map.1 hv;exact .cons (.val _) .nil
theorem zJ6 (l:List Vl):NL (.ro 2 (vls l)):=.ro fun v hv=>by obtain ⟨a,_,rfl⟩:=List.mem_map.1 hv;exact .cons (.val _) (.cons (.val _) .nil)
def J8 (x:Ins):Bool:=G4 x.op
def M8 (l:List Ins):Nat:=l.countP J8
def opC (p:Nat × Nat):V:=.agg [iV (p.1:Nat),iV (p.2:Nat)]
def j3 (l:List (Nat × Nat)):List V:=l.map opC
def Yr_ (th:Nat):Nat->List Ins->List (Nat × Nat)
 | _,[]=>[]
 | i,x::l=>if J8 x then (th,i)::Yr_ th (i+1) l else Yr_ th (i+1) l
def O0:Nat->List (List Ins)->List (Nat × Nat)
 | _,[]=>[]
 | i,l::r=>Yr_ i 0 l++O0 (i+1) r
theorem j4 (th:Nat):∀ (i:Nat) (l:List Ins),(Yr_ th i l).length=M8 l
 | _,[]=>rfl
 | i,x::l=>by
  unfold Yr_ M8
  have:=j4 th (i+1) l
  unfold M8 at this
  by_cases h:J8 x=true
  .rw [if_pos h,countP_cons_of_pos h,length_cons,this]
  rw [if_neg h,countP_cons_of_neg h,this]
theorem Zg_:∀ (i:Nat) (l:List (List Ins)),(O0 i l).length=(l.map M8).sum
 | _,[]=>rfl
 | i,x::l=>by simp [O0,j4,Zg_ (i+1) l]
def Z3_ (t:Tst):Nat:=(t.ths.map M8).sum
def QA_ (op a b:Int):Int :=
 if op=2 then IntKind.u64.wrap (a+b) else if op=3 then IntKind.u64.wrap (a-b) else if op=4 then x64 a b else if op=5 then n64 a b else if op=6 then o64 a b
 else if op=7 then y7 a (n64 b 63) else zPi a (n64 b 63)
structure Fl where
 state:List Int
 write:List Vl
 pair:List Int
 place:List Int
 value:List Int
 path:List Int
structure FlOk (n:Nat) (f:Fl):Prop where
 l1:f.state.length=n
 l2:f.write.length=n
 l3:f.pair.length=n
 l4:f.place.length=n
 l5:f.value.length=n
 l6:f.path.length=n
def T3 (w:Wk) (r:Bool) (n:Int):Vl:=if r then w.regs n.toNat else ⟨true,n⟩
def n7 (w:Wk) (r:Bool) (n:Int):Int:=if r then w.hangs n.toNat else 0
def Wr_ (w:Wk) (rd:Int) (v:Vl) (on:Int):Wk:={ w with regs:=fun q=>if q=rd.toNat then q7 v else w.regs q,hangs:=fun q=>if q=rd.toNat then on else w.hangs q }
def x6 (w:Wk) (f:Fl) (x:Ins) (k:Nat) (a:Vl) (on:Int) (works:Bool):Fl :=
 let pr:=if 0<w.lr/\w.lrLoc=x.loc then f.pair.set k w.lr else f.pair
 if works then { f with pair:=pr,write:=f.write.set k a,value:=f.value.set k on } else { f with pair:=pr,state:=f.state.set k 2,path:=f.path.set k 0,place:=f.place.set k 0 }
def x7 (w:Wk) (x:Ins) (k:Nat) (works:Bool):Wk :=
 if works then Wr_ { w with lr:=0 } x.rd ⟨true,0⟩ (y7 1 (k:Nat)) else Wr_ { w with lr:=0 } x.rd ⟨true,1⟩ 0
def P2 (w:Wk) (f:Fl) (x:Ins) (k:Nat):Fl :=
 { f with state:=f.state.set k 1,path:=f.path.set k w.path,place:=if 0<x.dep then f.place.set k (w.hangs (x.dep-1).toNat) else f.place }
def m8 (w:Wk) (f:Fl) (x:Ins) (k:Nat) (read:Vl) (works:Bool):Fl :=
 let f:=P2 w f x k
 let a:=T3 w x.aR x.aN
 let on:=n7 w x.aR x.aN
 if x.op=10\/x.op=11 then { f with write:=f.write.set k a,value:=f.value.set k on }
 else if x.op=12 then { f with write:=f.write.set k (q7 (zNk a read)),value:=f.value.set k on }
 else if x.op=14 then x6 w f x k a on works else f
def O1 (w:Wk) (x:Ins) (k:Nat) (read:Vl) (works:Bool):Wk :=
 if x.op=9 then Wr_ w x.rd read (y7 1 (k:Nat))
 else if x.op=13 then { Wr_ w x.rd read (y7 1 (k:Nat)) with lr:=(k:Nat)+1,lrLoc:=x.loc }
 else if x.op=10 then w
 else if x.op=11\/x.op=12 then Wr_ w x.rd read (y7 1 (k:Nat))
 else if x.op=14 then x7 w x k works else w
def brW (w:Wk) (x:Ins):Wk:={ w with path:=o64 w.path (o64 (n7 w x.aR x.aN) (n7 w x.bR x.bN)) }
def brK (w:Wk) (x:Ins):Bool:=(T3 w x.aR x.aN).k&&(T3 w x.bR x.bN).k
def brN (w:Wk) (x:Ins):Int:=if brK w x&&(decide ((T3 w x.aR x.aN).v=(T3 w x.bR x.bN).v)==decide (x.op=16)) then x.skip else 0
def H8 (w:Wk) (x:Ins):Wk :=
 if x.op=15 then w else if x.op=1 then Wr_ w x.rd (T3 w x.aR x.aN) 0
 else Wr_ w x.rd ⟨(T3 w x.aR x.aN).k&&(T3 w x.bR x.bN).k,QA_ x.op (T3 w x.aR x.aN).v (T3 w x.bR x.bN).v⟩ (o64 (n7 w x.aR x.aN) (n7 w x.bR x.bN))
structure InsOk (x:Ins):Prop where
 rd0:0<=x.rd
 rd8:x.rd<8
 a:x.aR=true->0<=x.aN/\x.aN<8
 b:x.bR=true->0<=x.bN/\x.bN<8
 dep:x.dep<=8
 skip:x.skip<=9223372036854775807
theorem zDa {m:Nat} {f:Fl} (h:FlOk m f) (w:Wk) (x:Ins) (k:Nat):FlOk m (P2 w f x k):=by
 obtain ⟨l1,l2,l3,l4,l5,l6⟩:=h
 unfold P2
 refine ⟨by simpa using l1,l2,l3,?_,l5,by simpa using l6⟩
 dsimp only;split
 .simpa using l4
 exact l4
theorem zPn {m:Nat} {f:Fl} (h:FlOk m f) (w:Wk) (x:Ins) (k:Nat) (a:Vl) (on:Int) (b:Bool):FlOk m (x6 w f x k a on b):=by
 obtain ⟨l1,l2,l3,l4,l5,l6⟩:=h
 have h3:(if 0<w.lr/\w.lrLoc=x.loc then f.pair.set k w.lr else f.pair).length=m:=by split<;>simpa using l3
 unfold x6
 cases b
 .exact ⟨by simpa using l1,l2,h3,by simpa using l4,l5,by simpa using l6⟩
 exact ⟨l1,by simpa using l2,h3,l4,by simpa using l5,l6⟩
theorem zXg {m:Nat} {f:Fl} (h:FlOk m f) (w:Wk) (x:Ins) (k:Nat) (r:Vl) (b:Bool):FlOk m (m8 w f x k r b):=by
 have h0:=zDa h w x k
 unfold m8
 dsimp only
 split
 .obtain ⟨l1,l2,l3,l4,l5,l6⟩:=h0
  exact ⟨l1,by simpa using l2,l3,l4,by simpa using l5,l6⟩
 split
 .obtain ⟨l1,l2,l3,l4,l5,l6⟩:=h0
  exact ⟨l1,by simpa using l2,l3,l4,by simpa using l5,l6⟩
 split
 .exact zPn h0 _ _ _ _ _ _
 exact h0
structure Ts where
 w:Wk
 f:Fl
 out:Int
 k:Nat
def zV:Vl:=⟨false,0⟩
def stepT (reads:List Vl) (works:List Bool) (i:Nat) (x:Ins) (s:Ts):Ts :=
 if 0<s.out then { w:={ s.w with left:=o64 s.w.left (y7 1 (i:Nat)) },f:=if J8 x then { s.f with state:=s.f.state.set s.k 2 } else s.f,out:=s.out-1,k:=if J8 x then s.k+1 else s.k }
 else if J8 x then { w:=O1 s.w x s.k (reads.getD s.k zV) (works.getD s.k false),f:=m8 s.w s.f x s.k (reads.getD s.k zV) (works.getD s.k false),out:=s.out,k:=s.k+1 }
 else if VL_ x.op then { s with w:=brW s.w x,out:=brN s.w x }
 else { s with w:=H8 s.w x }
def Z4 (x:Ins) (s:Ts):Bool:=!(decide (s.out<=0)&&!J8 x&&VL_ x.op&&!brK s.w x)
def runT (reads:List Vl) (works:List Bool):Nat->List Ins->Ts->Ts × Bool
 | _,[],s=>(s,true)
 | i,x::l,s=>if Z4 x s then runT reads works (i+1) l (stepT reads works i x s) else (stepT reads works i x s,false)
theorem N7 {α:Type} {l:List α} {i:Nat} {x:α} (h:l[i]?=some x):l.drop i=x::l.drop (i+1):=by
 obtain ⟨h1,h2⟩:=List.getElem?_eq_some_iff.1 h
 rw [drop_eq_getElem_cons h1,h2]
theorem M5 (x:Ins) (l:List Ins):M8 (x::l)=(if J8 x then 1 else 0)+M8 l:=by
 unfold M8
 rw [countP_cons];omega
theorem Qt_ {l:List Ins} {i:Nat} {x:Ins} (h:l[i]?=some x):M8 (l.drop i)=(if J8 x then 1 else 0)+M8 (l.drop (i+1)):=by rw [N7 h,M5]
theorem q9 {reads:List Vl} {works:List Bool} {l:List Ins} {i:Nat} {x:Ins} {s:Ts} (h:l[i]?=some x) (hb:Z4 x s=true):runT reads works i (l.drop i) s=runT reads works (i+1) (l.drop (i+1)) (stepT reads works i x s):=by
 rw [N7 h,runT,if_pos hb]
theorem zJ7 {reads:List Vl} {works:List Bool} {l:List Ins} {i:Nat} {x:Ins} {s:Ts} (h:l[i]?=some x) (hb:Z4 x s=false):runT reads works i (l.drop i) s=(stepT reads works i x s,false):=by
 rw [N7 h,runT,if_neg (by simp [hb])]
theorem XB_ {m:Nat} {reads:List Vl} {works:List Bool} {i:Nat} {x:Ins} {s:Ts} (h:FlOk m s.f):FlOk m (stepT reads works i x s).f:=by
 unfold stepT
 split
 .dsimp only
  split
  .obtain ⟨l1,l2,l3,l4,l5,l6⟩:=h
   exact ⟨by simpa using l1,l2,l3,l4,l5,l6⟩
  exact h
 split
 .exact zXg h _ _ _ _ _
 split
 .exact h
 exact h
theorem zXh {reads:List Vl} {works:List Bool} {l:List Ins} {i:Nat} {x:Ins} {s:Ts} (h:l[i]?=some x):(stepT reads works i x s).k+M8 (l.drop (i+1))<=s.k+M8 (l.drop i):=by
 rw [Qt_ h]
 unfold stepT
 split
 .dsimp only
  split<;>omega
 split
 .dsimp only;omega
 split<;>(dsimp only;omega)
theorem zJ8 {reads:List Vl} {works:List Bool} {i:Nat} {x:Ins} {s:Ts} (h:s.out<=9223372036854775807) (hx:InsOk x):(stepT reads works i x s).out<=9223372036854775807:=by
 have:=hx.skip
 unfold stepT
 split
 .dsimp only;omega
 split
 .exact h
 split
 .show brN s.w x<=_
  unfold brN
  split<;>omega
 exact h
def w0:Wk:={ regs:=fun _=>⟨true,0⟩,hangs:=fun _=>0,path:=0,left:=0,lr:=0,lrLoc:=0 }
def f0 (n:Nat):Fl:={ state:=List.replicate n 0,write:=List.replicate n ⟨false,0⟩,pair:=List.replicate n 0,place:=List.replicate n 0,value:=List.replicate n 0,path:=List.replicate n 0 }
structure Os' where
 f:Fl
 left:List Int
 regs:List (Nat->Vl)
 whole:Bool
 k:Nat
def zby (g:Nat->Vl):Bool:=(List.range 8).all fun r=>(g r).k
def Zh_ (reads:List Vl) (works:List Bool) (l:List Ins) (s:Os'):Os' :=
 let r:=runT reads works 0 l { w:=w0,f:=s.f,out:=0,k:=s.k }
 { f:=r.1.f,left:=s.left++[r.1.w.left],regs:=s.regs++[r.1.w.regs],whole:=s.whole&&r.2&&zby r.1.w.regs,k:=s.k+M8 l }
def X2_ (reads:List Vl) (works:List Bool):List (List Ins)->Os'->Os'
 | [],s=>s
 | l::r,s=>X2_ reads works r (Zh_ reads works l s)
def D5 (t:Tst) (reads:List Vl) (works:List Bool):Os':=X2_ reads works t.ths { f:=f0 (Z3_ t),left:=[],regs:=[],whole:=true,k:=0 }
def F7 (l:List (Nat->Vl)):List V:=l.map fun g=>.agg (q8 g)
def Os'.cs (s:Os'):List V:=[.ro 1 (iVs s.f.state),.ro 2 (vls s.f.write),.ro 1 (iVs s.f.pair),.ro 1 (uVs s.f.place),.ro 1 (uVs s.f.value),.ro 1 (uVs s.f.path),.ro 1 (uVs s.left),.ro 16 (F7 s.regs),bV s.whole]
open Go.Proofs.Tryz
theorem VQ_ (a b:Int):0<=n64 a b:=by
 unfold n64
 rw [IntWalk.u64_in _ ⟨Int.natCast_nonneg _,by have:=(BitVec.ofInt 64 a &&& BitVec.ofInt 64 b).isLt;omega⟩]
 exact Int.natCast_nonneg _
theorem zXi (a b:Int):Pf Tryz.prog 158 [uV a,uV b] (uV (y7 a (n64 b 63))):=by
 refine Pf.of_fn (.cons (.val _) (.cons (.val _) .nil)) (.val _) ?_
 refine B7 T_ok func158 rfl rfl ntmps158 rfl (by simp) ?_
 refine rG ?_
 refine rG ?_ fun K h=>by simp [go_sem,VQ_];exact h
 refine A4 ?_
 simp [go_sem]
theorem zPo (a b:Int):Pf Tryz.prog 159 [uV a,uV b] (uV (zPi a (n64 b 63))):=by
 refine Pf.of_fn (.cons (.val _) (.cons (.val _) .nil)) (.val _) ?_
 refine B7 T_ok func159 rfl rfl ntmps159 rfl (by simp) ?_
 refine rG ?_
 refine rG ?_ fun K h=>by simp [go_sem,VQ_];exact h
 refine A4 ?_
 simp [go_sem]
theorem Zi_ (op a b:Int):Pf Tryz.prog 127 [iV op,uV a,uV b] (uV (QA_ op a b)):=by
 refine Pf.of_fn (.cons (.val _) (.cons (.val _) (.cons (.val _) .nil))) (.val _) ?_
 refine B7 T_ok func127 rfl rfl ntmps127 rfl (by simp) ?_
 refine rG ?_
 refine A3 fun K1 hK1=>?_
 refine rG ?_
 apply A0
 refine rG ?_
 refine cK (fun h=>?_) fun h=>?_
 .have h2:op=2:=by simpa using h
  clear h
  refine rG ?_
  refine A4 ?_
  simp [go_sem,QA_,h2]
 have h2:¬ op=2:=by simpa using h
 clear h
 refine rG ?_
 refine cK (fun h=>?_) fun h=>?_
 .have h3:op=3:=by simpa using h
  clear h
  refine rG ?_
  refine A4 ?_
  simp [go_sem,QA_,h2,h3]
 have h3:¬ op=3:=by simpa using h
 clear h
 refine rG ?_
 refine cK (fun h=>?_) fun h=>?_
 .have h4:op=4:=by simpa using h
  clear h
  refine rG ?_
  refine A4 ?_
  simp [go_sem,QA_,h2,h3,h4]
 have h4:¬ op=4:=by simpa using h
 clear h
 refine rG ?_
 refine cK (fun h=>?_) fun h=>?_
 .have h5:op=5:=by simpa using h
  clear h
  refine rG ?_
  refine A4 ?_
  simp [go_sem,QA_,h2,h3,h4,h5]
 have h5:¬ op=5:=by simpa using h
 clear h
 refine rG ?_
 refine cK (fun h=>?_) fun h=>?_
 .have h6:op=6:=by simpa using h
  clear h
  refine rG ?_
  refine A4 ?_
  simp [go_sem,QA_,h2,h3,h4,h5,h6]
 have h6:¬ op=6:=by simpa using h
 clear h
 refine rG ?_
 refine cK (fun h=>?_) fun h=>?_
 .have h7:op=7:=by simpa using h
  clear h
  refine rK fun K hK=>?_
  simp [go_sem]
  refine A2 (zXi a b) ?_
  simp [go_sem]
  apply hK
  refine A4 ?_
  simp [go_sem,QA_,h2,h3,h4,h5,h6,h7]
 have h7:¬ op=7:=by simpa using h
 clear h
 apply A1
 apply hK1
 refine rK fun K hK=>?_
 simp [go_sem]
 refine A2 (zPo a b) ?_
 simp [go_sem]
 apply hK
 refine A4 ?_
 simp [go_sem,QA_,h2,h3,h4,h5,h6,h7]
theorem zDb (x:Vl):Pf Tryz.prog 214 [.agg [bV x.k,uV x.v]] (.agg [bV (q7 x).k,uV (q7 x).v]):=by
 refine Pf.of_fn (.cons (.agg (.cons (.val _) (.cons (.val _) .nil))) .nil) (.agg (.cons (.val _) (.cons (.val _) .nil))) ?_
 refine B7 T_ok func214 rfl rfl ntmps214 rfl (by simp) ?_
 refine rG ?_
 refine A3 fun K1 hK1=>?_
 refine rG ?_
 refine cK (fun h=>?_) fun h=>?_
 .have hk:x.k=false:=by simpa using h
  clear h
  refine rG ?_
  refine A4 ?_
  simp [go_sem,q7,hk]
 have hk:x.k=true:=by simpa using h
 clear h
 apply A1
 apply hK1
 refine rG ?_
 refine A4 ?_
 simp [go_sem,q7,hk]
theorem zft (x y:Vl):Pf Tryz.prog 215 [.agg [bV x.k,uV x.v],.agg [bV y.k,uV y.v]] (.agg [bV (zNk x y).k,uV (zNk x y).v]):=by
 refine Pf.of_fn (.cons (.agg (.cons (.val _) (.cons (.val _) .nil))) (.cons (.agg (.cons (.val _) (.cons (.val _) .nil))) .nil)) (.agg (.cons (.val _) (.cons (.val _) .nil))) ?_
 refine B7 T_ok func215 rfl rfl ntmps215 rfl (by simp) ?_
 refine rG ?_
 refine rK fun K hK=>?_
 cases hx:x.k
 .simp [go_sem,hx]
  apply hK
  refine A4 ?_
  simp [go_sem,zNk,hx]
 simp [go_sem,hx]
 apply hK
 refine A4 ?_
 simp [go_sem,zNk,hx]
theorem Qu_ (w k:Nat) (hw:w<k) (f:V) (x:Wk) (r:Bool) (n:Int) (hr:r=true->0<=n/\n<8):Sl.Fn Tryz.prog 212 [.ptr w 0 0,.agg [bV r,uV n]] [(w,.rows 29 [.agg (wkC f x)])] k fun v H _=>v=.tup [.agg [bV (T3 x r n).k,uV (T3 x r n).v],uV (n7 x r n)]/\H=[(w,.rows 29 [.agg (wkC f x)])]:=by
 refine Sl.Fn.keep (by simp) ?_
 have g22:¬ w=k/\¬ k=w/\¬ w=k+1/\¬ k+1=w:=by and_intros<;>omega
 refine B7 T_ok func212 rfl rfl ntmps212 rfl (by simp) ?_
 refine rG ?_
 refine A3 fun K1 hK1=>?_
 refine rG ?_
 refine cJ (fun h=>?_) fun h=>?_
 .have hr0:=h
  apply A1
  apply hK1
  refine rG ?_
  refine A4 ?_
  simp [go_sem,T3,n7,h,g22]
 obtain ⟨n0,n8⟩:=hr h
 have g23:n.toNat<8/\17+n.toNat+1<=29/\1+n.toNat*2+2<=29:=by and_intros<;>omega
 refine S8 T_ok (by kernel_rfl) 15 [[],[],[1],[0],[0,3],[0,1,2,3,4],[0,1,2,3,4,5],[],[],[8],[7],[7,10],[7,8,9,10,11],[7,8,9,10,11,12],[0,1,2,3,4,5,6],[0,1,2,3,4,5,6,7,8,9,10,11,12,13,14]] [(7,14),(8,14),(9,14),(10,14),(11,14),(12,14),(13,14)] (by decide) (by decide) (by decide) fun K hK=>?_
 first|dsimp only [List.take,List.drop]|dsimp [List.take,List.drop]
 simp [go_sem,n0,n8,g23,g22]
 refine ⟨by omega,?_⟩
 apply hK
 refine A4 ?_
 simp [go_sem,T3,n7,h,g22]
theorem Zj_ (w k:Nat) (hw:w<k) (f:V) (hf:f.one=true) (x:Wk) (rd:Int) (h0:0<=rd) (h8:rd<8) (v:Vl) (on:Int):Sl.Fn Tryz.prog 213 [.ptr w 0 0,iV rd,.agg [bV v.k,uV v.v],uV on] [(w,.rows 29 [.agg (wkC f x)])] k fun r H _=>r=.tup []/\H=[(w,.rows 29 [.agg (wkC f (Wr_ x rd v on))])]:=by
 refine Sl.Fn.keep (by simp) ?_
 have g24:rd.toNat<8/\17+rd.toNat+1<=29/\1+rd.toNat*2+2<=29/\¬ w=k/\¬ k=w/\¬ w=k+1/\¬ k+1=w:=by and_intros<;>omega
 refine B7 T_ok func213 rfl rfl ntmps213 rfl (by simp) ?_
 refine rG ?_
 refine Y9 T_ok (by kernel_rfl) 13 [[],[],[],[],[],[4],[],[0],[0,7],[0,1,4,5,7,8],[0,1,4,5,7,8,9],[2],[2,11],[0,1,2,3,4,5,6,7,8,9,10,11,12],[0,1,2,3,4,5,6,7,8,9,10,11,12,13]] [(2,10),(3,10),(6,10),(10,11),(10,12)] (by decide) (by decide) (by decide) fun K hK=>?_
 first|dsimp only [List.take,List.drop]|dsimp [List.take,List.drop]
 simp [go_sem,h0,h8,g24,hf]
 refine A5 (zDb v) ?_
 simp [go_sem,h0,h8,g24,hf]
 apply hK
 refine ⟨.inl rfl,?_⟩
 simp [go_sem,Wr_,g24]
theorem zXj (w k:Nat) (h12:12<w) (hw:w<k) (m:Nat) (L R Wh:V) (y:Wk) (f:Fl) (hfl:FlOk m f) (x:Ins) (n:Nat) (hn:n<m) (a:Vl) (on:Int) (works:Bool) (h0:0<=x.rd) (h8:x.rd<8):Sl.Fn Tryz.prog 216 [.ptr w 0 0,B5 x,iV (n:Nat),.agg [bV a.k,uV a.v],uV on,bV works] [(w,.rows 29 [.agg (wkC (.ptr 12 0 0) y)]),(12,.rows 9 [.agg [.sl 1 0 m,.sl 3 0 m,.sl 5 0 m,.sl 7 0 m,.sl 9 0 m,.sl 11 0 m,L,R,Wh]]),(1,.rows 1 (iVs f.state)),(3,.rows 2 (vls f.write)),(5,.rows 1 (iVs f.pair)),(7,.rows 1 (uVs f.place)),(9,.rows 1 (uVs f.value)),(11,.rows 1 (uVs f.path))] k fun r H _=>r=.tup []/\H=[(w,.rows 29 [.agg (wkC (.ptr 12 0 0) (x7 y x n works))]),(12,.rows 9 [.agg [.sl 1 0 m,.sl 3 0 m,.sl 5 0 m,.sl 7 0 m,.sl 9 0 m,.sl 11 0 m,L,R,Wh]]),(1,.rows 1 (iVs (x6 y f x n a on works).state)),(3,.rows 2 (vls (x6 y f x n a on works).write)),(5,.rows 1 (iVs (x6 y f x n a on works).pair)),(7,.rows 1 (uVs (x6 y f x n a on works).place)),(9,.rows 1 (uVs (x6 y f x n a on works).value)),(11,.rows 1 (uVs (x6 y f x n a on works).path))]:=by
 have g25:¬ w=1/\¬ 1=w/\¬ w=3/\¬ 3=w/\¬ w=5/\¬ 5=w/\¬ w=7/\¬ 7=w/\¬ w=9/\¬ 9=w/\¬ w=11/\¬ 11=w/\¬ w=12/\¬ 12=w/\¬ w=k/\¬ k=w/\¬ w=k+1/\¬ k+1=w/\¬ w=k+2/\¬ k+2=w/\¬ k=0/\¬ 0=k/\¬ k=1/\¬ 1=k/\¬ k=2/\¬ 2=k/\¬ k=3/\¬ 3=k/\¬ k=4/\¬ 4=k/\¬ k=5/\¬ 5=k/\¬ k=6/\¬ 6=k/\¬ k=7/\¬ 7=k/\¬ k=8/\¬ 8=k/\¬ k=9/\¬ 9=k/\¬ k=10/\¬ 10=k/\¬ k=11/\¬ 11=k/\¬ k=12/\¬ 12=k:=by and_intros<;>omega
 refine Sl.Fn.keep (by simp [g25]) ?_
 obtain ⟨l1,l2,l3,l4,l5,l6⟩:=hfl
 have g26:n<f.state.length/\n<f.write.length/\n<f.pair.length/\n<f.place.length/\n<f.value.length/\n<f.path.length/\(n:Int)<(m:Nat)/\(0:Int)<=(n:Nat):=by and_intros<;>omega
 refine B7 T_ok func216 rfl rfl ntmps216 rfl (by simp) ?_
 refine rG ?_ fun K h=>by simp [go_sem,B5,Ins.cs,g25];exact h
 refine rG ?_ fun K h=>by simp [go_sem,B5,Ins.cs,g25];exact h
 refine Z0 ⟨90,[(12,.ptr 12 0 0),(7,.ptr k 0 0),(9,.ptr (k+1) 0 0),(0,.ptr w 0 0),(2,iV (n:Nat)),(4,uV on),(5,bV works)],[(k+1,.rows 2 [.agg [bV a.k,uV a.v]]),(k,.rows 13 [B5 x]),(w,.rows 29 [.agg (wkC (.ptr 12 0 0) y)]),(12,.rows 9 [.agg [.sl 1 0 m,.sl 3 0 m,.sl 5 0 m,.sl 7 0 m,.sl 9 0 m,.sl 11 0 m,L,R,Wh]]),(1,.rows 1 (iVs f.state)),(3,.rows 2 (vls f.write)),(5,.rows 1 (iVs (if 0<y.lr/\y.lrLoc=x.loc then f.pair.set n y.lr else f.pair))),(7,.rows 1 (uVs f.place)),(9,.rows 1 (uVs f.value)),(11,.rows 1 (uVs f.path))],k+30⟩ ?_ ?_
 .skip
  refine Q6 T_ok (by kernel_rfl) 12 [[],[0],[0,1],[0,1,2],[0,1,2,3],[0,1,2,3,4],[0,1,2,3,4,5],[0,1,2,3,4,5,6],[0,1,2,3,4,5,6,7],[0,1,2,3,4,5,6,7,8],[0,1,2,3,4,5],[0,1,2,3,4,5,10],[0,1,2,3,4,5,6,7,8,9,10,11],[0,1,2,3,4,5,6,7,8,9,10,11,12]] [] (by decide) (by decide) (by decide) ⟨90,[(12,.ptr 12 0 0),(7,.ptr k 0 0),(9,.ptr (k+1) 0 0),(0,.ptr w 0 0),(2,iV (n:Nat)),(4,uV on),(5,bV works),(30,bV (decide (0<y.lr/\y.lrLoc=x.loc)))],[(k+1,.rows 2 [.agg [bV a.k,uV a.v]]),(k,.rows 13 [B5 x]),(w,.rows 29 [.agg (wkC (.ptr 12 0 0) y)]),(12,.rows 9 [.agg [.sl 1 0 m,.sl 3 0 m,.sl 5 0 m,.sl 7 0 m,.sl 9 0 m,.sl 11 0 m,L,R,Wh]]),(1,.rows 1 (iVs f.state)),(3,.rows 2 (vls f.write)),(5,.rows 1 (iVs f.pair)),(7,.rows 1 (uVs f.place)),(9,.rows 1 (uVs f.value)),(11,.rows 1 (uVs f.path))],k+14⟩ ?_ ?_
  .first|dsimp only [List.take,List.drop]|dsimp [List.take,List.drop]
   by_cases c1:0<y.lr
   .simp [go_sem,c1,B5,Ins.cs,g25]
    refine Weaker.fw 1 0 ?_ ?_<;>simp [go_sem,c1,B5,Ins.cs,g25,G8]
   simp [go_sem,c1,B5,Ins.cs,g25]
   refine Weaker.fw 1 0 ?_ ?_<;>simp [go_sem,c1,B5,Ins.cs,g25,G8]
  skip
  refine cJ (fun h=>?_) fun h=>?_
  .have hN:¬ (0<y.lr/\y.lrLoc=x.loc):=by simpa using h
   clear h
   apply A1
   refine Weaker.fy 1 0 ?_ ?_<;>simp [go_sem,B5,Ins.cs,g25,hN]
  simp at h
  obtain ⟨hA,hB⟩:=h
  refine dE 9 [[],[0],[0,1],[0,1,2],[],[],[5],[5,6],[5,6,7],[0,1,2,3,4,5,6,7,8],[0,1,2,3,4,5,6,7,8,9]] fun K hK=>?_
  first|dsimp only [List.take,List.drop]|dsimp [List.take,List.drop]
  simp [go_sem,B5,Ins.cs,g25,g26]
  apply hK
  refine Weaker.fy 1 0 ?_ ?_<;>simp [go_sem,B5,Ins.cs,g25,hA,hB]
 skip
 refine rG ?_ fun K h=>by simp [go_sem,B5,Ins.cs,g25];exact h
 refine A3 fun K1 hK1=>?_
 refine rG ?_
 refine cK (fun h=>?_) fun h=>?_
 .have hwk:works=false:=by simpa using h
  refine S8 T_ok (by kernel_rfl) 19 [[],[0],[0,1],[0,1,2],[],[],[5],[5,6],[5,6,7],[],[],[10],[10,11],[10,11,12],[],[0,1,2,3,4,5,6,7,8,10,11,12,13],[0,1,2,3,4,5,6,7,8,10,11,12,13,15],[0,1,2,3,4,5,6,7,8,9,10,11,12,13,15,16],[0,1,2,3,4,5,6,7,8,9,10,11,12,13,15,16,17],[0,1,2,3,4,5,6,7,8,9,10,11,12,13,14,15,16,17,18],[0,1,2,3,4,5,6,7,8,9,10,11,12,13,14,15,16,17,18,19]] [(9,16),(14,16),(14,18)] (by decide) (by decide) (by decide) fun K hK=>?_
  first|dsimp only [List.take,List.drop]|dsimp [List.take,List.drop]
  simp [go_sem,B5,Ins.cs,g25,g26]
  apply hK
  refine rK fun K hK=>?_
  simp [go_sem,B5,Ins.cs,g25]
  refine D7 (Zj_ w _ (by omega) (.ptr 12 0 0) rfl { y with lr:=0 } x.rd h0 h8 ⟨true,1⟩ 0) rfl (by simp) (by simp [go_sem,g25]) fun k' hk'=>?_
  simp [go_sem,g25]
  apply hK
  refine A4 ?_
  simp [go_sem,x7,x6,hwk,g25]
 have hwk:works=true:=by simpa using h
 apply A1
 apply hK1
 refine S8 T_ok (by kernel_rfl) 14 [[],[0],[0,1],[0,1,2],[],[],[5],[5,6],[5,6,7],[],[],[],[0,1,2,3,4,5,6,7,8,10],[0,1,2,3,4,5,6,7,8,10,12],[0,1,2,3,4,5,6,7,8,9,10,11,12,13],[0,1,2,3,4,5,6,7,8,9,10,11,12,13,14]] [(9,13),(11,13)] (by decide) (by decide) (by decide) fun K hK=>?_
 first|dsimp only [List.take,List.drop]|dsimp [List.take,List.drop]
 simp [go_sem,B5,Ins.cs,g25,g26]
 apply hK
 refine dE 6 [[],[],[1],[],[],[4],[0,1,2,3,4,5]] fun K hK=>?_
 first|dsimp only [List.take,List.drop]|dsimp [List.take,List.drop]
 simp [go_sem,B5,Ins.cs,g25,g26]
 refine D7 (Zj_ w _ (by omega) (.ptr 12 0 0) rfl { y with lr:=0 } x.rd h0 h8 ⟨true,0⟩ (y7 1 (n:Nat))) rfl (by simp) (by simp [go_sem,g25]) fun k' hk'=>?_
 simp [go_sem,g25]
 apply hK
 refine ⟨.inl rfl,?_⟩
 simp [go_sem,x7,x6,hwk,g25]
theorem zfu (w k:Nat) (h12:12<w) (hw:w<k) (m:Nat) (L R Wh:V) (y:Wk) (f:Fl) (hfl:FlOk m f) (x:Ins) (hx:InsOk x) (n:Nat) (hn:n<m) (hn63:n<9223372036854775807) (read:Vl) (works:Bool):Sl.Fn Tryz.prog 191 [.ptr w 0 0,B5 x,iV (n:Nat),.agg [bV read.k,uV read.v],bV works] [(w,.rows 29 [.agg (wkC (.ptr 12 0 0) y)]),(12,.rows 9 [.agg [.sl 1 0 m,.sl 3 0 m,.sl 5 0 m,.sl 7 0 m,.sl 9 0 m,.sl 11 0 m,L,R,Wh]]),(1,.rows 1 (iVs f.state)),(3,.rows 2 (vls f.write)),(5,.rows 1 (iVs f.pair)),(7,.rows 1 (uVs f.place)),(9,.rows 1 (uVs f.value)),(11,.rows 1 (uVs f.path))] k fun r H _=>r=.tup []/\H=[(w,.rows 29 [.agg (wkC (.ptr 12 0 0) (O1 y x n read works))]),(12,.rows 9 [.agg [.sl 1 0 m,.sl 3 0 m,.sl 5 0 m,.sl 7 0 m,.sl 9 0 m,.sl 11 0 m,L,R,Wh]]),(1,.rows 1 (iVs (m8 y f x n read works).state)),(3,.rows 2 (vls (m8 y f x n read works).write)),(5,.rows 1 (iVs (m8 y f x n read works).pair)),(7,.rows 1 (uVs (m8 y f x n read works).place)),(9,.rows 1 (uVs (m8 y f x n read works).value)),(11,.rows 1 (uVs (m8 y f x n read works).path))]:=by
 have g27:¬ w=1/\¬ 1=w/\¬ w=3/\¬ 3=w/\¬ w=5/\¬ 5=w/\¬ w=7/\¬ 7=w/\¬ w=9/\¬ 9=w/\¬ w=11/\¬ 11=w/\¬ w=12/\¬ 12=w/\¬ w=k/\¬ k=w/\¬ w=k+1/\¬ k+1=w/\¬ w=k+2/\¬ k+2=w/\¬ k=0/\¬ 0=k/\¬ k=1/\¬ 1=k/\¬ k=2/\¬ 2=k/\¬ k=3/\¬ 3=k/\¬ k=4/\¬ 4=k/\¬ k=5/\¬ 5=k/\¬ k=6/\¬ 6=k/\¬ k=7/\¬ 7=k/\¬ k=8/\¬ 8=k/\¬ k=9/\¬ 9=k/\¬ k=10/\¬ 10=k/\¬ k=11/\¬ 11=k/\¬ k=12/\¬ 12=k:=by and_intros<;>omega
 refine Sl.Fn.keep (by simp [g27]) ?_
 have hfl0:=zDa hfl y x n
 obtain ⟨h0,h8,ha,hb,hdep,hskip⟩:=hx
 obtain ⟨l1,l2,l3,l4,l5,l6⟩:=hfl
 have g28:n<f.state.length/\n<f.write.length/\n<f.pair.length/\n<f.place.length/\n<f.value.length/\n<f.path.length/\(n:Int)<(m:Nat)/\(0:Int)<=(n:Nat):=by and_intros<;>omega
 have hwn:=wI n
 refine B7 T_ok func191 rfl rfl ntmps191 rfl (by simp) ?_
 refine rG ?_ fun K h=>by simp [go_sem,B5,Ins.cs,g27];exact h
 refine rG ?_ fun K h=>by simp [go_sem,B5,Ins.cs,g27];exact h
 refine rG ?_ fun K h=>by simp [go_sem,B5,Ins.cs,g27,g28];exact h
 refine dK 9 [[],[0],[0,1],[0,1,2],[],[],[5],[5,6],[5,6,7],[0,1,2,3,4,5,6,7,8],[0,1,2,3,4,5,6,7,8,9]] fun K hK=>?_
 first|dsimp only [List.take,List.drop]|dsimp [List.take,List.drop]
 simp [go_sem,B5,Ins.cs,g27,g28]
 apply hK
 refine Z0 ⟨156,[(10,.ptr 12 0 0),(6,.ptr k 0 0),(8,.ptr (k+1) 0 0),(0,.ptr w 0 0),(2,iV (n:Nat)),(4,bV works)],[(k+1,.rows 2 [.agg [bV read.k,uV read.v]]),(k,.rows 13 [B5 x]),(w,.rows 29 [.agg (wkC (.ptr 12 0 0) y)]),(12,.rows 9 [.agg [.sl 1 0 m,.sl 3 0 m,.sl 5 0 m,.sl 7 0 m,.sl 9 0 m,.sl 11 0 m,L,R,Wh]]),(1,.rows 1 (iVs (f.state.set n 1))),(3,.rows 2 (vls f.write)),(5,.rows 1 (iVs f.pair)),(7,.rows 1 (uVs (if 0<x.dep then f.place.set n (y.hangs (x.dep-1).toNat) else f.place))),(9,.rows 1 (uVs f.value)),(11,.rows 1 (uVs (f.path.set n y.path)))],k+60⟩ ?_ ?_
 .skip
  refine rG ?_ fun K h=>by simp [go_sem,B5,Ins.cs,g27];exact h
  refine cJ (fun h=>?_) fun h=>?_
  .have hnd:¬ 0<x.dep:=by simpa using h
   clear h
   apply A1
   refine Weaker.fy 1 0 ?_ ?_<;>simp [go_sem,B5,Ins.cs,g27,hnd]
  have hd1:0<x.dep:=by simpa using h
  clear h
  obtain ⟨d,hd⟩:∃ d:Nat,x.dep=(d:Int)+1:=⟨(x.dep-1).toNat,by omega⟩
  have g29:d<8/\(0:Int)<=(d:Nat)/\(d:Int)<8/\(0:Int)<(d:Int)+1:=by and_intros<;>omega
  have hwd:IntKind.i64.wrap (d:Int)=d:=E4 (by omega) (by omega)
  have hd17:17+d+1<=29:=by omega
  refine dE 13 [[],[0],[0,1],[0,1,2],[],[],[],[6],[6,7],[5],[5,9],[5,6,7,8,9,10],[5,6,7,8,9,10,11],[0,1,2,3,4,5,6,7,8,9,10,11,12],[0,1,2,3,4,5,6,7,8,9,10,11,12,13]] fun K hK=>?_
  first|dsimp only [List.take,List.drop]|dsimp [List.take,List.drop]
  simp [go_sem,B5,Ins.cs,g27,g28,hd,g29,hwd,hd17]
  apply hK
  refine Weaker.fy 1 0 ?_ ?_<;>simp [go_sem,B5,Ins.cs,g27,hd,g29]
 skip
 refine rK fun K hK=>?_
 simp [go_sem,B5,Ins.cs,g27]
 refine D7 (Qu_ w _ (by omega) (.ptr 12 0 0) y x.aR x.aN ha) rfl (by simp) (by simp [go_sem,g27]) fun k' hk'=>?_
 have g30:¬ w=k'/\¬ k'=w/\¬ k'=0/\¬ 0=k'/\¬ k'=1/\¬ 1=k'/\¬ k'=2/\¬ 2=k'/\¬ k'=3/\¬ 3=k'/\¬ k'=4/\¬ 4=k'/\¬ k'=5/\¬ 5=k'/\¬ k'=6/\¬ 6=k'/\¬ k'=7/\¬ 7=k'/\¬ k'=8/\¬ 8=k'/\¬ k'=9/\¬ 9=k'/\¬ k'=10/\¬ 10=k'/\¬ k'=11/\¬ 11=k'/\¬ k'=12/\¬ 12=k'/\¬ k'=k/\¬ k=k'/\¬ k'=k+1/\¬ k+1=k':=by and_intros<;>omega
 simp [go_sem,g27,g30]
 apply hK
 refine rG ?_ fun K h=>by simp [go_sem,B5,Ins.cs,g27,g30];exact h
 apply A0
 refine A3 fun K1 hK1=>?_
 refine rG ?_
 refine cK (fun h=>?_) fun h=>?_
 .have hop:x.op=9:=by simpa using h
  clear h
  apply A1
  apply hK1
  refine cJ (fun h=>?_) fun h=>?_
  .simp [hop] at h
  clear h
  refine dK 6 [[],[],[1],[],[],[4],[0,1,2,3,4,5]] fun K hK=>?_
  first|dsimp only [List.take,List.drop]|dsimp [List.take,List.drop]
  simp [go_sem,B5,Ins.cs,g27,g30,g28]
  refine D7 (Zj_ w _ (by omega) (.ptr 12 0 0) rfl y x.rd h0 h8 read (y7 1 (n:Nat))) rfl (by simp) (by simp [go_sem,g27,g30]) fun k9 hk9=>?_
  simp [go_sem,g27,g30]
  apply hK
  refine rG ?_ fun K h=>by simp [go_sem,B5,Ins.cs,g27,g30];exact h
  refine cK (fun h=>?_) fun h=>?_
  .simp [hop] at h
  clear h
  apply A1
  refine ⟨.inl rfl,?_⟩
  first|simp [go_sem,O1,m8,P2,hop,g27,g30]|simp [go_sem,O1,m8,P2,n9,n13,n10,n11,n12,n14,g27,g30]
 have n9:¬ x.op=9:=by simpa using h
 clear h
 refine rF ?_
 apply hK1
 refine cK (fun h=>?_) fun h=>?_
 .have hop:x.op=13:=by simpa using h
  clear h
  refine dK 6 [[],[],[1],[],[],[4],[0,1,2,3,4,5]] fun K hK=>?_
  first|dsimp only [List.take,List.drop]|dsimp [List.take,List.drop]
  simp [go_sem,B5,Ins.cs,g27,g30,g28]
  refine D7 (Zj_ w _ (by omega) (.ptr 12 0 0) rfl y x.rd h0 h8 read (y7 1 (n:Nat))) rfl (by simp) (by simp [go_sem,g27,g30]) fun k9 hk9=>?_
  simp [go_sem,g27,g30]
  apply hK
  refine rG ?_ fun K h=>by simp [go_sem,B5,Ins.cs,g27,g30];exact h
  refine cJ (fun h=>?_) fun h=>?_
  .simp [hop] at h
  clear h
  refine Y9 T_ok (by kernel_rfl) 9 [[],[],[],[2],[],[4],[0,2,3],[0,2,3,6],[0,2,3,6,7],[0,1,2,3,4,5,6,7,8],[0,1,2,3,4,5,6,7,8,9],[0,1,2,3,4,5,6,7,8,9,10]] [(1,8),(4,8),(5,8)] (by decide) (by decide) (by decide) fun K hK=>?_
  first|dsimp only [List.take,List.drop]|dsimp [List.take,List.drop]
  simp [go_sem,B5,Ins.cs,g27,g30,g28,hwn]
  refine ⟨by omega,?_⟩
  apply hK
  refine ⟨.inl rfl,?_⟩
  first|simp [go_sem,O1,m8,P2,hop,g27,g30]|simp [go_sem,O1,m8,P2,n9,n13,n10,n11,n12,n14,g27,g30]
 have n13:¬ x.op=13:=by simpa using h
 clear h
 refine rG ?_
 refine cK (fun h=>?_) fun h=>?_
 .have hop:x.op=10:=by simpa using h
  clear h
  refine Y9 T_ok (by kernel_rfl) 14 [[],[0],[0,1],[0,1,2],[],[],[5],[5,6],[5,6,7],[],[],[],[0,1,2,3,4,5,6,7,8,10],[0,1,2,3,4,5,6,7,8,10,12],[0,1,2,3,4,5,6,7,8,9,10,11,12,13],[0,1,2,3,4,5,6,7,8,9,10,11,12,13,14]] [(9,13),(11,13)] (by decide) (by decide) (by decide) fun K hK=>?_
  first|dsimp only [List.take,List.drop]|dsimp [List.take,List.drop]
  simp [go_sem,B5,Ins.cs,g27,g30,g28]
  apply hK
  refine ⟨.inl rfl,?_⟩
  first|simp [go_sem,O1,m8,P2,hop,g27,g30]|simp [go_sem,O1,m8,P2,n9,n13,n10,n11,n12,n14,g27,g30]
 have n10:¬ x.op=10:=by simpa using h
 clear h
 refine rG ?_
 refine cK (fun h=>?_) fun h=>?_
 .have hop:x.op=11:=by simpa using h
  clear h
  refine S8 T_ok (by kernel_rfl) 14 [[],[0],[0,1],[0,1,2],[],[],[5],[5,6],[5,6,7],[],[],[],[0,1,2,3,4,5,6,7,8,10],[0,1,2,3,4,5,6,7,8,10,12],[0,1,2,3,4,5,6,7,8,9,10,11,12,13],[0,1,2,3,4,5,6,7,8,9,10,11,12,13,14]] [(9,13),(11,13)] (by decide) (by decide) (by decide) fun K hK=>?_
  first|dsimp only [List.take,List.drop]|dsimp [List.take,List.drop]
  simp [go_sem,B5,Ins.cs,g27,g30,g28]
  apply hK
  refine dE 6 [[],[],[1],[],[],[4],[0,1,2,3,4,5]] fun K hK=>?_
  first|dsimp only [List.take,List.drop]|dsimp [List.take,List.drop]
  simp [go_sem,B5,Ins.cs,g27,g30,g28]
  refine D7 (Zj_ w _ (by omega) (.ptr 12 0 0) rfl y x.rd h0 h8 read (y7 1 (n:Nat))) rfl (by simp) (by simp [go_sem,g27,g30]) fun k9 hk9=>?_
  simp [go_sem,g27,g30]
  apply hK
  refine ⟨.inl rfl,?_⟩
  first|simp [go_sem,O1,m8,P2,hop,g27,g30]|simp [go_sem,O1,m8,P2,n9,n13,n10,n11,n12,n14,g27,g30]
 have n11:¬ x.op=11:=by simpa using h
 clear h
 refine rG ?_
 refine cK (fun h=>?_) fun h=>?_
 .have hop:x.op=12:=by simpa using h
  clear h
  refine S8 T_ok (by kernel_rfl) 17 [[],[0],[0,1],[0,1,2],[],[],[5],[5,6],[5,6,7],[],[],[],[10,11],[10,11,12],[],[0,1,2,3,4,5,6,7,8,10,11,12,13],[0,1,2,3,4,5,6,7,8,10,11,12,13,15],[0,1,2,3,4,5,6,7,8,9,10,11,12,13,14,15,16],[0,1,2,3,4,5,6,7,8,9,10,11,12,13,14,15,16,17]] [(9,16),(14,16)] (by decide) (by decide) (by decide) fun K hK=>?_
  first|dsimp only [List.take,List.drop]|dsimp [List.take,List.drop]
  simp [go_sem,B5,Ins.cs,g27,g30,g28]
  refine A5 (zft (T3 y x.aR x.aN) read) ?_
  simp [go_sem,B5,Ins.cs,g27,g30,g28]
  refine A5 (zDb (zNk (T3 y x.aR x.aN) read)) ?_
  simp [go_sem,B5,Ins.cs,g27,g30,g28]
  apply hK
  refine dE 6 [[],[],[1],[],[],[4],[0,1,2,3,4,5]] fun K hK=>?_
  first|dsimp only [List.take,List.drop]|dsimp [List.take,List.drop]
  simp [go_sem,B5,Ins.cs,g27,g30,g28]
  refine D7 (Zj_ w _ (by omega) (.ptr 12 0 0) rfl y x.rd h0 h8 read (y7 1 (n:Nat))) rfl (by simp) (by simp [go_sem,g27,g30]) fun k9 hk9=>?_
  simp [go_sem,g27,g30]
  apply hK
  refine ⟨.inl rfl,?_⟩
  first|simp [go_sem,O1,m8,P2,hop,g27,g30]|simp [go_sem,O1,m8,P2,n9,n13,n10,n11,n12,n14,g27,g30]
 have n12:¬ x.op=12:=by simpa using h
 clear h
 refine rG ?_
 refine cJ (fun h=>?_) fun h=>?_
 .have n14:¬ x.op=14:=by simpa using h
  clear h
  apply A1
  refine ⟨.inl rfl,?_⟩
  first|simp [go_sem,O1,m8,P2,hop,g27,g30]|simp [go_sem,O1,m8,P2,n9,n13,n10,n11,n12,n14,g27,g30]
 have hop:x.op=14:=by simpa using h
 clear h
 refine rE fun K hK=>?_
 simp [go_sem,B5,Ins.cs,g27,g30]
 refine D7 (zXj w _ h12 (by omega) m L R Wh y (P2 y f x n) hfl0 x n hn (T3 y x.aR x.aN) (n7 y x.aR x.aN) works h0 h8) rfl (by simp [g27]) (by simp [go_sem,P2,g27,g30]) fun k9 hk9=>?_
 simp [go_sem,g27,g30]
 apply hK
 refine ⟨.inl rfl,?_⟩
 first|simp [go_sem,O1,m8,P2,hop,g27,g30]|simp [go_sem,O1,m8,P2,n9,n13,n10,n11,n12,n14,g27,g30]
theorem zJ9 (w k:Nat) (hw:w<k) (fp:V) (hfp:fp.one=true) (y:Wk) (x:Ins) (hx:InsOk x):Sl.Fn Tryz.prog 192 [.ptr w 0 0,B5 x] [(w,.rows 29 [.agg (wkC fp y)])] k fun r H _=>r=.tup [iV (brN y x),bV (brK y x)]/\H=[(w,.rows 29 [.agg (wkC fp (brW y x))])]:=by
 have g31:¬ w=k/\¬ k=w/\¬ w=k+1/\¬ k+1=w:=by and_intros<;>omega
 refine Sl.Fn.keep (by simp) ?_
 obtain ⟨h0,h8,ha,hb,hdep,hskip⟩:=hx
 refine B7 T_ok func192 rfl rfl ntmps192 rfl (by simp) ?_
 refine rG ?_ fun K h=>by simp [go_sem,B5,Ins.cs,g31];exact h
 refine rK fun K hK=>?_
 simp [go_sem,B5,Ins.cs,g31]
 refine D7 (Qu_ w _ (by omega) fp y x.aR x.aN ha) rfl (by simp) (by simp [go_sem,g31]) fun k' hk'=>?_
 have g32:¬ w=k'/\¬ k'=w/\¬ k'=k/\¬ k=k':=by and_intros<;>omega
 simp [go_sem,g31,g32]
 apply hK
 refine rK fun K hK=>?_
 simp [go_sem,B5,Ins.cs,g31,g32]
 refine D7 (Qu_ w _ (by omega) fp y x.bR x.bN hb) rfl (by simp) (by simp [go_sem,g31,g32]) fun k'' hk''=>?_
 have g33:¬ w=k''/\¬ k''=w/\¬ k''=k/\¬ k=k''/\¬ k''=k'/\¬ k'=k'':=by and_intros<;>omega
 simp [go_sem,g31,g32,g33]
 apply hK
 refine rG ?_ fun K h=>by simp [go_sem,B5,Ins.cs,g31,g32,g33,hfp];exact h
 refine A3 fun K1 hK1=>?_
 refine D8 T_ok (by decide) ⟨53,[(0,.ptr w 0 0),(3,.ptr k 0 0),(6,.ptr k' 0 0),(8,.ptr k'' 0 0),(41,bV (!brK y x))],[(k'',.rows 2 [.agg [bV (T3 y x.bR x.bN).k,uV (T3 y x.bR x.bN).v]]),(k',.rows 2 [.agg [bV (T3 y x.aR x.aN).k,uV (T3 y x.aR x.aN).v]]),(k,.rows 13 [B5 x]),(w,.rows 29 [.agg (wkC fp (brW y x))])],k''+1⟩ ?_ ?_
 .by_cases c1:(T3 y x.aR x.aN).k=true
  .simp [go_sem,c1,B5,Ins.cs,g31,g32,g33]
   refine Weaker.fw 1 0 ?_ ?_<;>simp [go_sem,c1,B5,Ins.cs,g31,g32,g33,brK,brW]
  simp [go_sem,c1,B5,Ins.cs,g31,g32,g33]
  refine Weaker.fw 1 0 ?_ ?_<;>simp [go_sem,c1,B5,Ins.cs,g31,g32,g33,brK,brW]
 skip
 refine cK (fun h=>?_) fun h=>?_
 .have hK0:brK y x=false:=by simpa using h
  clear h
  refine rG ?_
  refine A4 ?_
  simp [go_sem,brN,hK0,g31,g32,g33]
 have hK0:brK y x=true:=by simpa using h
 clear h
 apply A1
 apply hK1
 refine A3 fun K2 hK2=>?_
 refine rG ?_ fun K h=>by simp [go_sem,B5,Ins.cs,g31,g32,g33];exact h
 refine cK (fun h=>?_) fun h=>?_
 .have hE:((T3 y x.aR x.aN).v=(T3 y x.bR x.bN).v↔x.op=16):=by simpa [G8] using h
  clear h
  refine rG ?_ fun K h=>by simp [go_sem,B5,Ins.cs,g31,g32,g33];exact h
  refine A4 ?_
  simp [go_sem,brN,hK0,hE,g31,g32,g33]
 have hE:¬ ((T3 y x.aR x.aN).v=(T3 y x.bR x.bN).v↔x.op=16):=by simpa [G8] using h
 clear h
 apply A1
 apply hK2
 refine rG ?_
 refine A4 ?_
 simp [go_sem,brN,hK0,hE,g31,g32,g33]
theorem zPp (w k:Nat) (hw:w<k) (fp:V) (hfp:fp.one=true) (y:Wk) (x:Ins) (hx:InsOk x):Sl.Fn Tryz.prog 193 [.ptr w 0 0,B5 x] [(w,.rows 29 [.agg (wkC fp y)])] k fun r H _=>r=.tup []/\H=[(w,.rows 29 [.agg (wkC fp (H8 y x))])]:=by
 have g34:¬ w=k/\¬ k=w/\¬ w=k+1/\¬ k+1=w:=by and_intros<;>omega
 refine Sl.Fn.keep (by simp) ?_
 obtain ⟨h0,h8,ha,hb,hdep,hskip⟩:=hx
 refine B7 T_ok func193 rfl rfl ntmps193 rfl (by simp) ?_
 refine rG ?_ fun K h=>by simp [go_sem,B5,Ins.cs,g34];exact h
 refine A3 fun K1 hK1=>?_
 refine rG ?_ fun K h=>by simp [go_sem,B5,Ins.cs,g34];exact h
 refine cK (fun h=>?_) fun h=>?_
 .have hop:x.op=15:=by simpa using h
  clear h
  refine A4 ?_
  simp [go_sem,H8,hop,g34]
 have n15:¬ x.op=15:=by simpa using h
 clear h
 apply A1
 apply hK1
 refine rK fun K hK=>?_
 simp [go_sem,B5,Ins.cs,g34]
 refine D7 (Qu_ w _ (by omega) fp y x.aR x.aN ha) rfl (by simp) (by simp [go_sem,g34]) fun k' hk'=>?_
 have g35:¬ w=k'/\¬ k'=w/\¬ k'=k/\¬ k=k':=by and_intros<;>omega
 simp [go_sem,g34,g35]
 apply hK
 refine A3 fun K2 hK2=>?_
 refine rG ?_ fun K h=>by simp [go_sem,B5,Ins.cs,g34,g35];exact h
 refine cK (fun h=>?_) fun h=>?_
 .have hop:x.op=1:=by simpa using h
  clear h
  refine rK fun K hK=>?_
  simp [go_sem,B5,Ins.cs,g34,g35]
  refine D7 (Zj_ w _ (by omega) fp hfp y x.rd h0 h8 (T3 y x.aR x.aN) 0) rfl (by simp) (by simp [go_sem,g34,g35]) fun k9 hk9=>?_
  simp [go_sem,g34,g35]
  apply hK
  refine A4 ?_
  simp [go_sem,H8,hop,g34,g35]
 have n1:¬ x.op=1:=by simpa using h
 clear h
 apply A1
 apply hK2
 refine rK fun K hK=>?_
 simp [go_sem,B5,Ins.cs,g34,g35]
 refine D7 (Qu_ w _ (by omega) fp y x.bR x.bN hb) rfl (by simp) (by simp [go_sem,g34,g35]) fun k'' hk''=>?_
 have g36:¬ w=k''/\¬ k''=w/\¬ k''=k/\¬ k=k''/\¬ k''=k'/\¬ k'=k'':=by and_intros<;>omega
 simp [go_sem,g34,g35,g36]
 apply hK
 refine dE 20 [[],[],[1],[],[3],[3,4],[3,4,5],[3,4,5,6],[3,4,5,6,7],[],[9],[],[11],[],[13],[3,4,5,9,10,11,12,13,14],[3,4,5,6,7,8,9,10,11,12,13,14,15],[],[],[17,18],[0,1,2,3,4,5,6,7,8,9,10,11,12,13,14,15,16,17,18,19]] fun K hK=>?_
 first|dsimp only [List.take,List.drop]|dsimp [List.take,List.drop]
 cases hA:(T3 y x.aR x.aN).k
 .simp [go_sem,hA,B5,Ins.cs,g34,g35,g36]
  refine A5 (Zi_ x.op (T3 y x.aR x.aN).v (T3 y x.bR x.bN).v) ?_
  simp [go_sem,hA,B5,Ins.cs,g34,g35,g36]
  refine D7 (Zj_ w _ (by omega) fp hfp y x.rd h0 h8 ⟨false,QA_ x.op (T3 y x.aR x.aN).v (T3 y x.bR x.bN).v⟩ (o64 (n7 y x.aR x.aN) (n7 y x.bR x.bN))) rfl (by simp) (by simp [go_sem,g34,g35,g36]) fun k9 hk9=>?_
  simp [go_sem,g34,g35,g36]
  apply hK
  refine ⟨.inl rfl,?_⟩
  simp [go_sem,H8,hA,n15,n1,g34,g35,g36]
 simp [go_sem,hA,B5,Ins.cs,g34,g35,g36]
 refine A5 (Zi_ x.op (T3 y x.aR x.aN).v (T3 y x.bR x.bN).v) ?_
 simp [go_sem,hA,B5,Ins.cs,g34,g35,g36]
 refine D7 (Zj_ w _ (by omega) fp hfp y x.rd h0 h8 ⟨(T3 y x.bR x.bN).k,QA_ x.op (T3 y x.aR x.aN).v (T3 y x.bR x.bN).v⟩ (o64 (n7 y x.aR x.aN) (n7 y x.bR x.bN))) rfl (by simp) (by simp [go_sem,g34,g35,g36]) fun k9 hk9=>?_
 simp [go_sem,g34,g35,g36]
 apply hK
 refine ⟨.inl rfl,?_⟩
 simp [go_sem,H8,hA,n15,n1,g34,g35,g36]
end Go.Proofs.YtmpbalepefpllaaGreat
