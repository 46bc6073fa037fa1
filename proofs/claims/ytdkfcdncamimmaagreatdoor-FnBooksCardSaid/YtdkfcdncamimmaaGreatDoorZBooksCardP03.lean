/-
  Own work: part 10 of the texts that the proof of the given statement leans on.
-/
import Derived.Test.YtdkfcdncamimmaaGreatDoorZBooksCardP02
noncomputable section
namespace Go.Di
theorem zyb (w v:List UInt8) (r:List (List UInt8)) (c:UInt8):Lib.join (w :: v :: r) [c]=w++c :: Lib.join (v :: r) [c]:=by
 rw[Lib.join_cons,Lib.join_cons]
 simp[Lib.joinTail]
theorem zn0 (c:UInt8) {K:Nat}:∀ {ws:List (List UInt8)},(∀ w∈ws,w.length≤K)→(Lib.join ws [c]).length≤(K+1) * ws.length
  | [],_=>by simp[Lib.join_nil]
  | [w],h=>by
    have:=h w (List.mem_cons_self ..)
    rw[Lib.join_one]; simp; omega
  | w :: v :: r,h=>by
    have h1:=h w (List.mem_cons_self ..)
    have ih:=zn0 c (ws:=v :: r) fun x hx=>h x (List.mem_cons_of_mem _ hx)
    rw[zyb,List.length_append,List.length_cons,List.length_cons (a:=w),Nat.mul_add]; omega
theorem join_isW {ws:List (List UInt8)} (h:∀ w∈ws,w.all isW=true):∀ x∈Lib.join ws [32],isW x=true∨x=32:=by
  have key : ∀ ws:List (List UInt8),(∀ w∈ws,w.all isW=true)→∀ x∈Lib.join ws [32],isW x=true∨x=32:=by
    intro ws
    induction ws with
    | nil=>intro _ x hx; rw[Lib.join_nil] at hx; cases hx
    | cons w r ih =>
      intro h x hx
      cases r with
      | nil=>rw[Lib.join_one] at hx; exact .inl (List.all_eq_true.1 (h w (List.mem_cons_self ..)) x hx)
      | cons v r =>
        rw[zyb] at hx
        rcases List.mem_append.1 hx with hx | hx
        · exact .inl (List.all_eq_true.1 (h w (List.mem_cons_self ..)) x hx)
        · rcases List.mem_cons.1 hx with hx | hx
          · exact .inr hx
          · exact ih (fun y hy=>h y (List.mem_cons_of_mem _ hy)) x hx
  exact key ws h
theorem ztr {ws:List (List UInt8)} (h:∀ w∈ws,w.all isW=true):(10:UInt8) ∉ Lib.join ws [32]:=fun hm=>by
 rcases join_isW h 10 hm with h | h
 ·revert h; decide
 ·revert h; decide
theorem zyo {n:Net} (hn:znX n=true) {i:Int} (h0:0≤i) (h1:i < n.stations.length):∃ e∈n.stations,idx n.stations i=some e∧nameB e.name=true∧zaV n.stations e.name=i:=by
 have hi:i.toNat < n.stations.length:=by omega
 refine ⟨n.stations[i.toNat],List.getElem_mem _,ziH h0 h1,((zlX hn).2 _ (List.getElem_mem _)).1,?_⟩
 unfold znX at hn
 simp only[Bool.and_eq_true,List.all_eq_true,List.mem_range] at hn
 have:=hn.2 i.toNat hi
 unfold zxZ at this
 rw[List.getElem?_eq_getElem hi] at this
 simp only[Bool.and_eq_true,beq_iff_eq] at this
 rw[this.2]; omega
theorem zBi {n:Net} {o:Obs} (h:zgD n o=true):∃ k:Nat,1≤k∧k≤8∧o.kind=(k:Int):=by
 unfold zgD zl7 inB at h
 simp only[Bool.and_eq_true] at h
 have h:=h.1
 refine ⟨o.kind.toNat,?_⟩
 cases hp:n.plane<;>rw[hp] at h<;>simp at h<;>omega
theorem zNW (k:Int):(kw k).size≤8:=by
 obtain ⟨v,_,h,hs⟩:=zh1 k
 rw[zmB] at h
 cases h; exact hs
theorem zAG {n:Net} {o:Obs} (h:zgD n o=true) (hb:zmp o.kind=false):o.to=0:=by
 unfold zgD at h
 rw[hb] at h
 simp only[cond_false,Bool.and_eq_true,beq_iff_eq] at h
 exact h.2.2.1
structure ObsW (n:Net) (o:Obs) (ws:List (List UInt8)):Prop where
 line:zaM n o=some (bl (Lib.join ws [32]))
 isw:∀ w∈ws,w.all isW=true
 len:(Lib.join ws [32]).length≤20000
 read:zam n (bl (Lib.join ws [32]))=some (o,true)
 first:∃ (k:Nat) (t:List (List UInt8)),1≤k∧k≤8∧ws=(kw (k:Int)).data.toList :: t
theorem zDO {n:Net} {o:Obs} (fn:zg8 Sta.zh7 n.stations) (hn:znX n=true) (h:zgD n o=true):∃ ws,ObsW n o ws:=by
  obtain ⟨⟨a1,a2⟩,hb,g1,g2⟩:=zjk h
  obtain ⟨k,k1,k8,hk⟩:=zBi h
  obtain ⟨e,_,_,hne,hfe⟩:=zyo hn a1 a2
  obtain ⟨kind,frm,tow,value,variance⟩:=o
  have hk:kind=(k:Int):=hk
  subst hk
  have g1:Good value:=g1
  have g2:Good variance:=g2
  have hfe:zaV n.stations e.name=frm:=hfe
  have r1:=zjj g1
  have r2:=zjj g2
  have e1:(zc8 (zff value).data.toList).1=value:=by rw[r1]
  have e2:(zc8 (zff variance).data.toList).1=variance:=by rw[r2]
  have z1:=zcn g1
  have z2:=zcn g2
  have z3:=zj7 hne
  have z4:=zNW (k:Int)
  have hbl:zaV n.stations (bl e.name.data.toList)=frm:=by rw[zft]; exact hfe
  cases hbt:zmp (k:Int) with
  | true =>
    obtain ⟨b1,b2⟩:=hb hbt
    obtain ⟨e',_,_,hne',hfe'⟩:=zyo hn b1 b2
    have hfe':zaV n.stations e'.name=tow:=hfe'
    have z5:=zj7 hne'
    have hbl':zaV n.stations (bl e'.name.data.toList)=tow:=by rw[zft]; exact hfe'
    have hall:∀ w∈[(kw (k:Int)).data.toList,e.name.data.toList,e'.name.data.toList,(zff value).data.toList,(zff variance).data.toList],w.all isW=true:=by
      intro w hw
      rcases (by simpa using hw:w=_∨w=_∨w=_∨w=_∨w=_) with rfl | rfl | rfl | rfl | rfl
      · exact zL5 k k1 k8
      · exact zlY hne
      · exact zlY hne'
      · exact zlw _
      · exact zlw _
    have hlen:(Lib.join [(kw (k:Int)).data.toList,e.name.data.toList,e'.name.data.toList,(zff value).data.toList,(zff variance).data.toList] [32]).length≤20000:=by
      refine Nat.le_trans (zn0 32 (K:=2000) fun w hw=>?_) (by simp)
      rcases (by simpa using hw:w=_∨w=_∨w=_∨w=_∨w=_) with rfl | rfl | rfl | rfl | rfl<;>rw[zaC]<;>omega
    refine ⟨_,⟨?_,hall,hlen,?_,⟨k,_,k1,k8,rfl⟩⟩⟩
    · have:=zPY (n:=n) (k:=(k:Int)) (f:=frm) (t:=tow) (b:=e.name.data.toList) (b2:=e'.name.data.toList) (c:=(zff value).data.toList) (d:=(zff variance).data.toList) fn hbt hbl.symm hbl'.symm (by rw[e1,e2]; exact h)
      rw[e1,e2] at this
      exact this
    · rw[zDP fn (by omega) (zhN (by simp) fun w hw=>zyc (hall w hw) (by decide)) k1 k8 (zft _).symm hbt,hbl,hbl',r1,r2]
      unfold zvx
      rw[hn,h]; rfl
  | false =>
    have ht:tow=0:=zAG h hbt
    subst ht
    have hall:∀ w∈[(kw (k:Int)).data.toList,e.name.data.toList,(zff value).data.toList,(zff variance).data.toList],w.all isW=true:=by
      intro w hw
      rcases (by simpa using hw:w=_∨w=_∨w=_∨w=_) with rfl | rfl | rfl | rfl
      · exact zL5 k k1 k8
      · exact zlY hne
      · exact zlw _
      · exact zlw _
    have hlen:(Lib.join [(kw (k:Int)).data.toList,e.name.data.toList,(zff value).data.toList,(zff variance).data.toList] [32]).length≤20000:=by
      refine Nat.le_trans (zn0 32 (K:=2000) fun w hw=>?_) (by simp)
      rcases (by simpa using hw:w=_∨w=_∨w=_∨w=_) with rfl | rfl | rfl | rfl<;>rw[zaC]<;>omega
    refine ⟨_,⟨?_,hall,hlen,?_,⟨k,_,k1,k8,rfl⟩⟩⟩
    · have:=zPZ (n:=n) (k:=(k:Int)) (f:=frm) (b:=e.name.data.toList) (c:=(zff value).data.toList) (d:=(zff variance).data.toList) fn hbt hbl.symm (by rw[e1,e2]; exact h)
      rw[e1,e2] at this
      exact this
    · rw[zDQ fn (by omega) (zhN (by simp) fun w hw=>zyc (hall w hw) (by decide)) k1 k8 (zft _).symm hbt,hbl,r1,r2]
      unfold zvx
      rw[hn,h]; rfl
/-! ### Books -/
theorem zyi {plane:Bool} {R:List (List UInt8)}:∀ (l xs:List Sta),(∀ e∈l,zvw e plane=true)→xs.length+l.length≤8→goS plane (l.map (fun e=>Lib.join (zk8 plane e) [32])++R) xs []=goS plane R (xs++l) []
  | [],xs,_,_=>by simp
  | e :: r,xs,h,hl=>by
    rw[List.length_cons] at hl
    have ih:=zyi (R:=R) r (xs++[e]) (fun x hx=>h x (List.mem_cons_of_mem _ hx)) (by simp; omega)
    rw[List.map_cons,List.cons_append]
    conv=>lhs; unfold goS
    rw[zCN (h e (List.mem_cons_self ..))]
    simp only
    rw[show ((([]:List Obs).length==0) && decide (xs.length < 8))=true by simp; omega,cond_true,ih]
    simp
theorem goS_obss {plane:Bool} {xs:List Sta} {W:Obs→List (List UInt8)}:∀ (l ys:List Obs),(∀ o∈l,ObsW ⟨plane,xs⟩ o (W o))→ys.length+l.length≤20→goS plane (l.map fun o=>Lib.join (W o) [32]) xs ys=some (xs,ys++l)
  | [],ys,_,_=>by simp[goS]
  | o :: r,ys,h,hl=>by
    rw[List.length_cons] at hl
    have ho:=h o (List.mem_cons_self ..)
    have ih:=goS_obss r (ys++[o]) (fun x hx=>h x (List.mem_cons_of_mem _ hx)) (by simp; omega)
    have hr:zpE ⟨plane,xs⟩ (Lib.join (W o) [32])=(o,true):=by unfold zpE; rw[ho.read]; rfl
    have hq:stQ plane (zaP 32 (Lib.join (W o) [32]))=none:=by
      cases hp:stQ plane (zaP 32 (Lib.join (W o) [32])) with
      | none=>rfl
      | some p =>
        obtain ⟨a,t,hs,hw⟩:=zxy hp
        obtain ⟨k,t',k1,k8,hW⟩:=ho.first
        rw[zhN (by rw[hW]; simp) fun w hw=>zyc (ho.isw w hw) (by decide),hW] at hs
        have:bl a=kw (k:Int):=by
          injection hs with h1 h2
          rw[← h1,zft]
        rw[this] at hw
        rcases hw with hw | hw
        · exact absurd hw (zIj k k1 k8).1
        · exact absurd hw (zIj k k1 k8).2
    rw[List.map_cons]
    unfold goS
    rw[hq]
    simp only
    unfold obS
    rw[hr]
    simp only[cond_true]
    rw[show (ys.length==20)=false by simp; omega,cond_false,ih]
    simp
theorem zpq {α:Type} {g:α→ByteArray} {W:α→List UInt8}:∀ (l:List α) (o:ByteArray),(∀ x∈l,(g x).data.toList=W x++[10])→(zpG g l o).data.toList=o.data.toList++zlg (l.map W)
  | [],o,_=>by simp[zpG,zlg]
  | x :: r,o,h=>by
    show (zpG g r (o++g x)).data.toList=_
    rw[zpq r _ fun y hy=>h y (List.mem_cons_of_mem _ hy),zbX,h x (List.mem_cons_self ..)]
    simp[zlg]
theorem zBM {b:Bk} (fs:zg8 Sta.zh7 b.stations) (h:zg2 ⟨b.plane,b.stations⟩ b.obs=true):zG0 (zlD b).data.toList=(b,true)∧(zlD b).size≤1048576∧∀ o∈b.obs,∃ v,zaM ⟨b.plane,b.stations⟩ o=some v∧zam ⟨b.plane,b.stations⟩ v=some (o,true):=by
  obtain ⟨plane,stas,obs⟩:=b
  have fs:zg8 Sta.zh7 stas:=fs
  have h:zg2 ⟨plane,stas⟩ obs=true:=h
  have h0:=h
  unfold zg2 at h
  simp only[Bool.and_eq_true,decide_eq_true_eq,List.all_eq_true] at h
  obtain ⟨hn,h20,hobs⟩:=h
  obtain ⟨h8,hgood⟩:=zlX hn
  have h8:stas.length≤8:=h8
  have hgood:∀ e∈stas,nameB e.name=true∧Good e.x∧Good e.y:=hgood
  have hsta:∀ e∈stas,zvw e plane=true:=fun e he=>by
    have hn2:=hn
    unfold znX at hn2
    simp only[Bool.and_eq_true,List.all_eq_true,List.mem_range] at hn2
    obtain ⟨i,hi,rfl⟩:=List.getElem_of_mem he
    have:=hn2.2 i hi
    unfold zxZ at this
    simp only at this
    rw[List.getElem?_eq_getElem hi] at this
    simp only[Bool.and_eq_true] at this
    exact this.1
  have hW:∀ o,∃ ws,o∈obs→ObsW ⟨plane,stas⟩ o ws:=fun o=>by
    by_cases ho:o∈obs
    · obtain ⟨ws,hw⟩:=zDO (n:=⟨plane,stas⟩) fs hn (hobs o ho)
      exact ⟨ws,fun _=>hw⟩
    · exact ⟨[],fun h=>absurd h ho⟩
  let W:Obs→List (List UInt8):=fun o=>Classical.choose (hW o)
  have hW':∀ o∈obs,ObsW ⟨plane,stas⟩ o (W o):=fun o ho=>Classical.choose_spec (hW o) ho
  have hobsL:∀ o∈obs,(zHt ⟨plane,stas⟩ o).data.toList=Lib.join (W o) [32]++[10]:=fun o ho=>by
    unfold zHt
    rw[(hW' o ho).line,zbX]
    show (bl _).data.toList++[10]=_
    rw[zaW]
  have hhead:∃ a:List UInt8,(cond plane (⟨#[112,108,97,110,101,10]⟩:ByteArray) (⟨#[104,101,105,103,104,116,115,10]⟩:ByteArray)).data.toList=a++[10]∧10 ∉ a∧strEq (bl a) plaW=plane∧(strEq (bl a) plaW || strEq (bl a) heiW)=true∧a.length≤10:=by
    cases plane with
    | true=>exact ⟨[112,108,97,110,101],rfl,by decide,by rw[zbW]; exact zeY _,by rw[zbW]; rw[show eqB (bl [112,108,97,110,101]) plaW=true from zeY _]; rfl,by decide⟩
    | false =>
      have e:strEq (bl [104,101,105,103,104,116,115]) plaW=false:=by rw[zbW]; exact zdV.2 (by decide)
      exact ⟨[104,101,105,103,104,116,115],rfl,by decide,e,by rw[e,zbW,show eqB (bl [104,101,105,103,104,116,115]) heiW=true from zeY _]; rfl,by decide⟩
  obtain ⟨a,ha,ha10,hap,hah,hal⟩:=hhead
  have hT:(zlD ⟨plane,stas,obs⟩).data.toList=zlg (a :: (stas.map (fun e=>Lib.join (zk8 plane e) [32])++obs.map fun o=>Lib.join (W o) [32])):=by
    unfold zlD
    rw[zpq (W:=fun o=>Lib.join (W o) [32]) obs _ hobsL,zpq (W:=fun e=>Lib.join (zk8 plane e) [32]) stas _ fun e _=>zp0 plane e]
    show ((cond plane (⟨#[112,108,97,110,101,10]⟩:ByteArray) (⟨#[104,101,105,103,104,116,115,10]⟩:ByteArray)).data.toList++_)++_=_
    rw[ha]
    simp[zlg]
  have hno:∀ w∈a :: (stas.map (fun e=>Lib.join (zk8 plane e) [32])++obs.map fun o=>Lib.join (W o) [32]),10 ∉ w:=by
    intro w hw
    rcases List.mem_cons.1 hw with rfl | hw
    · exact ha10
    · rcases List.mem_append.1 hw with hw | hw
      · obtain ⟨e,he,rfl⟩:=List.mem_map.1 hw
        exact ztr (zxz (hgood e he).1)
      · obtain ⟨o,ho,rfl⟩:=List.mem_map.1 hw
        exact ztr (hW' o ho).isw
  have hsz:(zlD ⟨plane,stas,obs⟩).size≤1048576:=by
    have k1:∀ e∈stas,(zvv plane e).size≤20000:=fun e he=>by
      rw[← zaC,zp0,List.length_append]
      have:=zn0 32 (K:=2000) (ws:=zk8 plane e) fun w hw=>by
        have z1:=zcn (hgood e he).2.1
        have z2:=zcn (hgood e he).2.2
        have z3:=zj7 (hgood e he).1
        have z4:(wordOf e).data.toList.length≤5:=by unfold wordOf; cases e.fixed<;>decide
        unfold zk8 at hw
        cases plane with
        | true=>rcases (by simpa using hw:w=_∨w=_∨w=_∨w=_) with rfl | rfl | rfl | rfl<;>first | omega | (rw[zaC]; omega)
        | false=>rcases (by simpa using hw:w=_∨w=_∨w=_) with rfl | rfl | rfl<;>first | omega | (rw[zaC]; omega)
      have h4:(zk8 plane e).length≤4:=by unfold zk8; cases plane<;>simp
      have:2001 * (zk8 plane e).length≤2001 * 4:=Nat.mul_le_mul_left _ h4
      simp; omega
    have k2:∀ o∈obs,(zHt ⟨plane,stas⟩ o).size≤20001:=fun o ho=>by
      rw[← zaC,hobsL o ho,List.length_append]
      have:=(hW' o ho).len
      simp; omega
    have c1:=zjC stas (cond plane (⟨#[112,108,97,110,101,10]⟩:ByteArray) (⟨#[104,101,105,103,104,116,115,10]⟩:ByteArray)) k1
    have c2:=zjC obs (zpG (zvv plane) stas (cond plane (⟨#[112,108,97,110,101,10]⟩:ByteArray) (⟨#[104,101,105,103,104,116,115,10]⟩:ByteArray))) k2
    have c0:(cond plane (⟨#[112,108,97,110,101,10]⟩:ByteArray) (⟨#[104,101,105,103,104,116,115,10]⟩:ByteArray)).size≤8:=by cases plane<;>decide
    have m1:20000 * stas.length≤20000 * 8:=Nat.mul_le_mul_left _ h8
    have m2:20001 * obs.length≤20001 * 20:=Nat.mul_le_mul_left _ h20
    show (zpG (zHt ⟨plane,stas⟩) obs (zpG (zvv plane) stas (cond plane (⟨#[112,108,97,110,101,10]⟩:ByteArray) (⟨#[104,101,105,103,104,116,115,10]⟩:ByteArray)))).size≤_
    omega
  refine ⟨?_,hsz,fun o ho=>⟨_,(hW' o ho).line,(hW' o ho).read⟩⟩
  unfold zG0
  rw[hT,zBf hno]
  simp only
  rw[hah,hap,cond_true,zyi stas [] hsta (by simpa using h8),List.nil_append,goS_obss obs [] hW' (by simpa using h20)]
  unfold zrP
  simp only[List.nil_append]
  rw[h0,← hT,zft,zeY]
  rfl
end Go.Di
namespace Go.Di
theorem ztE {o:Obs} (h:o.fit):zcU o=some o:=by
 unfold zcU
 rw[zjs h.1,Option.bind_some,zjs h.2]; rfl
theorem zsK {o:Obs} (h:o.fit):zhL o=some o:=by
 unfold zhL
 rw[znw h.1,Option.bind_some,znw h.2]; rfl
theorem zyg {l:List Int} (h:l.length≤1048576) (n:Int):∃ b,zbb l n=some b:=by
 unfold zbb zhr
 have key:=find_loop (S:=zbt) (fun i=>(n,l,(l.length:Int),(i:Int),())) l.length (fun i=>cond (((l[i]?).getD 0)==n) (some (.inl (true,()))) none) (.inr ()) (fun i hi=>by
  have hg:l[i]? = some l[i]:=List.getElem?_eq_getElem hi
  simp only[zbt,dlt hi,cond_true,zaT hi,Option.bind_some,zbZ hi h,hg,Option.getD_some]
  cases (l[i]==n)<;>rfl) (by simp[zbt])
 rw[show ((0:Nat):Int)=0 from rfl] at key
 rw[key,Option.bind_some]
 cases ((List.range l.length).findSome? fun i=>cond (((l[i]?).getD 0)==n) (some (Sum.inl (β:=Unit) (true,()))) none).getD (.inr ()) with
 | inl r=>exact ⟨r.1,rfl⟩
 | inr _=>exact ⟨false,rfl⟩
theorem zHB:zml=zbb:=rfl
def zgx (l:List Obs) (skip:List Int):Nat→List Obs
 | 0=>[]
 | i+1=>cond ((zbb skip (i:Int)).getD false) (zgx l skip i) (zgx l skip i++(l[i]?).toList)
theorem zoV (l:List Obs) (skip:List Int):∀ i:Nat,(zgx l skip i).length≤i∧((zgx l skip i).map Obs.sz).sum≤((l.take i).map Obs.sz).sum
  | 0=>⟨Nat.le_refl _,by simp[zgx]⟩
  | i + 1=>by
    have ih:=zoV l skip i
    have hle:((l.take i).map Obs.sz).sum≤((l.take (i+1)).map Obs.sz).sum:=by
      rw[List.take_add_one,List.map_append,List.sum_append]; omega
    unfold zgx
    cases (zbb skip (i:Int)).getD false with
    | true=>exact ⟨by simp only[cond_true]; omega,by simp only[cond_true]; omega⟩
    | false =>
      simp only[cond_false,List.length_append,List.map_append,List.sum_append]
      rw[List.take_add_one,List.map_append,List.sum_append]
      refine ⟨?_,by omega⟩
      cases l[i]? <;> simp<;>omega
theorem zsC {l:List Obs} (hl:zg8 Obs.fit l) {skip:List Int} (hs:skip.length≤1048576):zeP l skip=some (zgx l skip l.length)∧zbY l skip=some (zgx l skip l.length):=by
 have h1:=hl.1
 constructor
 ·unfold zeP zee
  have key:=ze4 zbG (fun i=>(skip,l,(l.length:Int),(i:Int),zgx l skip i,())) l.length (zgx l skip l.length,()) (fun i hi=>by
   obtain ⟨b,hb⟩:=zyg hs (i:Int)
   have hg:l[i]? = some l[i]:=List.getElem?_eq_getElem hi
   have hlen:=(zoV l skip i).1
   simp only[zbG,dlt hi,cond_true,zaT hi,Option.bind_some,zHB,hb,zsK (hl.2 _ (List.getElem_mem hi)),zHI (show (zgx l skip i).length≤2000000 by omega),zbZ hi h1]
   rw[show zgx l skip (i+1)=cond ((zbb skip (i:Int)).getD false) (zgx l skip i) (zgx l skip i++(l[i]?).toList) from rfl,hb,hg]
   cases b<;>rfl) (by simp[zbG])
  refine (congrArg (fun x=>Option.bind x _) key).trans ?_
  rfl
 ·unfold zbY zeg
  have key:=ze4 za0 (fun i=>(skip,l,(l.length:Int),(i:Int),zgx l skip i,())) l.length (zgx l skip l.length,()) (fun i hi=>by
   obtain ⟨b,hb⟩:=zyg hs (i:Int)
   have hg:l[i]? = some l[i]:=List.getElem?_eq_getElem hi
   have hlen:=(zoV l skip i).1
   simp only[za0,dlt hi,cond_true,zaT hi,Option.bind_some,hb,ztE (hl.2 _ (List.getElem_mem hi)),zHI (show (zgx l skip i).length≤2000000 by omega),zbZ hi h1]
   rw[show zgx l skip (i+1)=cond ((zbb skip (i:Int)).getD false) (zgx l skip i) (zgx l skip i++(l[i]?).toList) from rfl,hb,hg]
   cases b<;>rfl) (by simp[za0])
  refine (congrArg (fun x=>Option.bind x _) key).trans ?_
  rfl
end Go.Di
namespace Go.Di
theorem draw_planeN {c:Cur} (h:c.ok) {n fixed:Int} (h0:0≤n) (h1:n≤4):∃ l c',zfA c n fixed=some (⟨true,l⟩,c')∧zq5 100 1 true l∧(l.length:Int)=n∧c'.ok:=by
  unfold zfA zih
  obtain ⟨r,hr,e1,e2,e3,e4⟩:=zcI (S:=zdf) (fun x=>x.1=n∧x.2.2.1=(x.2.2.2.2.2.2.2.2.2.1.length:Int)∧x.2.2.1≤n∧Cur.ok ⟨x.2.2.2.1,x.2.2.2.2.1,x.2.2.2.2.2.1⟩∧x.2.2.2.2.2.2.2.2.1=true∧zq5 100 1 true x.2.2.2.2.2.2.2.2.2.1) (fun x=>(n - x.2.2.1).toNat) (fun r=>r.2.2.2.2.2.1=true∧zq5 100 1 true r.2.2.2.2.2.2.1∧(r.2.2.2.2.2.2.1.length:Int)=n∧Cur.ok ⟨r.1,r.2.1,r.2.2.1⟩)
    (by
      rintro ⟨m,fx,i,v,v1,v2,v3,v4,v5,xs,u⟩ ⟨k1,k2,k3,k4,k5,k6⟩
      simp only at k1 k2 k3 k4 k5 k6
      subst k1; subst k2; subst k5
      unfold zdf
      simp only
      cases hc:decide ((xs.length:Int) < m) with
      | true =>
        have hl:=of_decide_eq_true hc
        obtain ⟨a,c1,e1,a1,a2,g1⟩:=zbh k4 (n:=9) (by omega)
        obtain ⟨b,c2,e2,b1,b2,g2⟩:=zbh g1 (n:=9) (by omega)
        have hw:IntKind.i64.wrap ((xs.length:Int) * (xs.length:Int))=(xs.length:Int) * (xs.length:Int)∧0≤(xs.length:Int) * (xs.length:Int)∧(xs.length:Int) * (xs.length:Int)≤9:=by
          have:xs.length=0∨xs.length=1∨xs.length=2∨xs.length=3:=by omega
          rcases this with e | e | e | e<;>rw[e]<;>exact ⟨rfl,by decide,by decide⟩
        simp only[cond_true,zsI (show xs.length < 4 by omega),Option.bind_some,e1,e2]
        rw[hw.1,wrap_i64 (n:=10 * a) (by omega) (by omega),wrap_i64 (n:=10 * b) (by omega) (by omega),wrap_i64 (n:=10 * a+xs.length) (by omega) (by omega),wrap_i64 (n:=10 * b+(xs.length:Int) * (xs.length:Int)) (by omega) (by omega),zej (by omega) (by omega),zej (by omega) (by omega),zHI (show xs.length≤2000000 by omega),wrap_i64 (n:=(xs.length:Int)+1) (by omega) (by omega)]
        have hst:zOZ 100 1 true ⟨nmS xs.length,rq ((10 * a+(xs.length:Int):Int):Rat),rq ((10 * b+(xs.length:Int) * (xs.length:Int):Int):Rat),decide ((xs.length:Int) < fx)⟩ :=
          ⟨((10 * a+(xs.length:Int):Int):Rat),((10 * b+(xs.length:Int) * (xs.length:Int):Int):Rat),rfl,rfl,(znI _).mono (by omega) (by omega),(znI _).mono (by omega) (by omega),fun h=>by cases h⟩
        have happ:=zx0 k6 (s:=⟨nmS xs.length,rq ((10 * a+(xs.length:Int):Int):Rat),rq ((10 * b+(xs.length:Int) * (xs.length:Int):Int):Rat),decide ((xs.length:Int) < fx)⟩) rfl hst
        simp only[Option.bind_some]
        refine .inl ⟨_,rfl,⟨rfl,by simp,?_,g2,rfl,happ⟩,?_⟩
        · show (xs.length:Int)+1≤m; omega
        · show (m - ((xs.length:Int)+1)).toNat < (m - (xs.length:Int)).toNat; omega
      | false=>exact .inr ⟨_,rfl,rfl,k6,(by show (xs.length:Int)=m; have:=of_decide_eq_false hc; omega),k4⟩)
    (x:=(n,fixed,0,c.b,c.i,c.h,false,[],true,[],())) ⟨rfl,rfl,h0,h,rfl,fun j hj=>by simp at hj⟩
  rw[hr,Option.bind_some]
  obtain ⟨v,v1,v2,v3,v4,v5,xs,u⟩:=r
  simp only at e1 e2 e3 e4
  subst e1
  exact ⟨xs,_,rfl,e2,e3,e4⟩
theorem draw_heightsN {c:Cur} (h:c.ok) {n fixed:Int} (h0:0≤n) (h1:n≤4):∃ l c',zeH c n fixed=some (⟨false,l⟩,c')∧zq5 100 1 false l∧(l.length:Int)=n∧c'.ok:=by
  unfold zeH zhl
  obtain ⟨r,hr,e1,e2,e3,e4⟩:=zcI (S:=zcM) (fun x=>x.1=n∧x.2.2.1=(x.2.2.2.2.2.2.2.2.2.1.length:Int)∧x.2.2.1≤n∧Cur.ok ⟨x.2.2.2.1,x.2.2.2.2.1,x.2.2.2.2.2.1⟩∧x.2.2.2.2.2.2.2.2.1=false∧zq5 100 1 false x.2.2.2.2.2.2.2.2.2.1) (fun x=>(n - x.2.2.1).toNat) (fun r=>r.2.2.2.2.2.1=false∧zq5 100 1 false r.2.2.2.2.2.2.1∧(r.2.2.2.2.2.2.1.length:Int)=n∧Cur.ok ⟨r.1,r.2.1,r.2.2.1⟩)
    (by
      rintro ⟨m,fx,i,v,v1,v2,v3,v4,v5,xs,u⟩ ⟨k1,k2,k3,k4,k5,k6⟩
      simp only at k1 k2 k3 k4 k5 k6
      subst k1; subst k2; subst k5
      unfold zcM
      simp only
      cases hc:decide ((xs.length:Int) < m) with
      | true =>
        have hl:=of_decide_eq_true hc
        obtain ⟨a,c1,e1,a1,a2,g1⟩:=zbh k4 (n:=60) (by omega)
        simp only[cond_true,zsI (show xs.length < 4 by omega),Option.bind_some,e1,zok]
        rw[zej (by omega) (by omega),zHI (show xs.length≤2000000 by omega),wrap_i64 (n:=(xs.length:Int)+1) (by omega) (by omega)]
        have hst:zOZ 100 1 false ⟨nmS xs.length,rq ((a:Int):Rat),rq 0,decide ((xs.length:Int) < fx)⟩ :=
          ⟨((a:Int):Rat),0,rfl,rfl,(znI _).mono (by omega) (by omega),(znI 0).mono (by omega) (by omega),fun _=>rfl⟩
        have happ:=zx0 k6 (s:=⟨nmS xs.length,rq ((a:Int):Rat),rq 0,decide ((xs.length:Int) < fx)⟩) rfl hst
        simp only[Option.bind_some]
        refine .inl ⟨_,rfl,⟨rfl,by simp,?_,g1,rfl,happ⟩,?_⟩
        · show (xs.length:Int)+1≤m; omega
        · show (m - ((xs.length:Int)+1)).toNat < (m - (xs.length:Int)).toNat; omega
      | false=>exact .inr ⟨_,rfl,rfl,k6,(by show (xs.length:Int)=m; have:=of_decide_eq_false hc; omega),k4⟩)
    (x:=(n,fixed,0,c.b,c.i,c.h,false,[],false,[],())) ⟨rfl,rfl,h0,h,rfl,fun j hj=>by simp at hj⟩
  rw[hr,Option.bind_some]
  obtain ⟨v,v1,v2,v3,v4,v5,xs,u⟩:=r
  simp only at e1 e2 e3 e4
  subst e1
  exact ⟨xs,_,rfl,e2,e3,e4⟩
theorem zD0 {code:List Int} (h:code.length≤1048576):∃ p l list,zfI code=some (⟨p,l⟩,list)∧zg8 Sta.zh7 l∧zg8 Obs.fit list∧zg2 ⟨p,l⟩ list=true∧1≤list.length:=by
  have fin:∀ (p:Bool) (l:List Sta) (list:List Obs),zq5 100 1 p l→l.length≤4→LOk ⟨p,l⟩ list→list.length≤20→zg8 Sta.zh7 l∧zg8 Obs.fit list∧zg2 ⟨p,l⟩ list=true:=fun p l list hI h4 ho h20=>by
    refine ⟨zHR hI h4 (by decide) (by decide),⟨by omega,fun o hm=>(ho o hm).1⟩,?_⟩
    unfold zg2
    rw[zAH hI h4 (by decide) (by decide),decide_eq_true h20,Bool.true_and,Bool.true_and,List.all_eq_true]
    exact fun o hm=>(ho o hm).2
  unfold zfI zhK
  obtain ⟨c,e,k⟩:=cur_new h
  obtain ⟨w,c1,e1,k1⟩:=zrV k (n:=3) (by omega)
  rw[e,Option.bind_some,e1,Option.bind_some]
  simp only[]
  cases w with
  | true =>
    obtain ⟨a,c2,e2,a1,a2,k2⟩:=zbh k1 (n:=2) (by omega)
    obtain ⟨b,c3,e3,b1,b2,k3⟩:=zbh k2 (n:=2) (by omega)
    obtain ⟨l,c4,e4,i4,l4,k4⟩:=draw_planeN k3 (n:=2+a) (fixed:=b) (by omega) (by omega)
    obtain ⟨list,c5,e5,o5,n5,m5⟩:=zHM k4 i4 (by omega) (by omega)
    obtain ⟨f1,f2,f3⟩:=fin true l list i4 (by omega) o5 m5
    rw[cond_true,e2,Option.bind_some]
    simp only[]
    rw[e3,Option.bind_some]
    simp only[]
    rw[wrap_i64 (n:=2+a) (by omega) (by omega),e4,Option.bind_some]
    simp only[]
    rw[e5]
    exact ⟨true,l,list,rfl,f1,f2,f3,n5⟩
  | false =>
    obtain ⟨a,c2,e2,a1,a2,k2⟩:=zbh k1 (n:=3) (by omega)
    obtain ⟨b,c3,e3,b1,b2,k3⟩:=zbh k2 (n:=3) (by omega)
    obtain ⟨l,c4,e4,i4,l4,k4⟩:=draw_heightsN k3 (n:=2+a) (fixed:=b) (by omega) (by omega)
    obtain ⟨list,c5,e5,o5,n5,m5⟩:=zBt k4 i4 (by omega) (by omega)
    obtain ⟨f1,f2,f3⟩:=fin false l list i4 (by omega) o5 m5
    rw[cond_false,e2,Option.bind_some]
    simp only[]
    rw[e3,Option.bind_some]
    simp only[]
    rw[wrap_i64 (n:=2+a) (by omega) (by omega),e4,Option.bind_some]
    simp only[]
    rw[e5]
    exact ⟨false,l,list,rfl,f1,f2,f3,n5⟩
end Go.Di
namespace Go.Di
theorem zIq:zbb [0] ((0:Nat):Int)=some true:=by
 unfold zbb zhr
 rw[zaw (r := .inl (true,())) rfl]
 rfl
theorem zIr (k:Nat):zbb [0] ((k+1:Nat):Int)=some false:=by
 have hne:((0:Int)==((k+1:Nat):Int))=false:=by
  rw[beq_eq_false_iff_ne]; omega
 have h0:zbt (((k+1:Nat):Int),[0],1,0,())=some (.inl (((k+1:Nat):Int),[0],1,1,())):=by
  have e:zbt (((k+1:Nat):Int),[0],1,0,())=bif ((0:Int)==((k+1:Nat):Int)) then some (.inr (.inl (true,()))) else some (.inl (((k+1:Nat):Int),[0],1,IntKind.i64.wrap (0+1),())):=rfl
  rw[e,hne]; rfl
 have h1:zbt (((k+1:Nat):Int),[0],1,1,())=some (.inr (.inr ())):=rfl
 unfold zbb
 show (whileO zbt (((k+1:Nat):Int),[0],1,0,())).bind _=_
 rw[za6 h0,zaw h1]
 rfl
theorem zx7 (l:List Obs):∀ i,i≤l.length→(zgx l [0] i).length=i - 1
  | 0,_=>rfl
  | 1,h=>by
    show (cond ((zbb [0] ((0:Nat):Int)).getD false) (zgx l [0] 0) (zgx l [0] 0++(l[0]?).toList)).length=0
    rw[zIq]; rfl
  | i+2,h=>by
    have ih:=zx7 l (i+1) (by omega)
    show (cond ((zbb [0] ((i+1:Nat):Int)).getD false) (zgx l [0] (i+1)) (zgx l [0] (i+1)++(l[i+1]?).toList)).length=i+2 - 1
    rw[zIr]
    simp only[Option.getD_some,cond_false]
    rw[List.getElem?_eq_getElem (by omega),List.length_append,ih]
    simp
theorem law_Books (code:List Int) (_:CK.wf (.sl .byte) code):zhM code=some true:=by
  unfold zhM
  cases hc:decide ((code.length:Int) > 1048576) with
  | true=>rfl
  | false =>
    have hl:code.length≤1048576:=by have:=of_decide_eq_false hc; omega
    obtain ⟨p,l,list,e1,fl,fo,hok,h1⟩:=zD0 hl
    obtain ⟨r1,r2,r3⟩:=zBM (b:=⟨p,l,list⟩) fl hok
    have r3:∀ o∈list,∃ v,zaM ⟨p,l⟩ o=some v∧zam ⟨p,l⟩ v=some (o,true):=r3
    have hF:zbF ⟨p,l,list⟩=some (zlD ⟨p,l,list⟩):=by
      rw[(zpu (b:=⟨p,l,list⟩) fl fo).2]
      unfold zBN
      rw[show zg2 ⟨p,l⟩ list=true from hok]; rfl
    have hP:zdY (zlD ⟨p,l,list⟩)=some (⟨p,l,list⟩,true):=by
      have:=(book_parse (l:=(zlD ⟨p,l,list⟩).data.toList) (by rw[zaC]; exact r2)).1
      rw[zft,r1] at this
      exact this
    have hB:zcw ⟨p,l,list⟩=some true:=by rw[zlB (b:=⟨p,l,list⟩) fl fo]; exact congrArg some hok
    have hO:zbE ⟨p,l⟩ list=some true:=by rw[zoX (n:=⟨p,l⟩) fl fo,hok]
    have hS:ze3 ⟨p,l,list⟩ ⟨p,l,list⟩=some true:=by
      unfold ze3
      rw[zBo (a:=⟨p,l⟩) (zrN fl),Option.bind_some,zeY,cond_true,zoY fo,zeY]
      rfl
    have hobs:∀ o∈list,znX ⟨p,l⟩=true∧zgD ⟨p,l⟩ o=true:=fun o ho=>by
      unfold zg2 at hok
      simp only[Bool.and_eq_true,decide_eq_true_eq,List.all_eq_true] at hok
      exact ⟨hok.1,hok.2.2 o ho⟩
    have hL:zgC list list (list.length:Int) 0 p l=some (.inr (list,())):=by
      unfold zgC
      refine ze4 zcY (fun i=>(list,list,(list.length:Int),(i:Int),p,l,())) list.length (.inr (list,())) (fun i hi=>?_) (by simp[zcY])
      have hm:=List.getElem_mem hi
      obtain ⟨v,v1,v2⟩:=r3 _ hm
      obtain ⟨v',w1,w2,_,w4⟩:=zxU (n:=⟨p,l⟩) fl (fo.2 _ hm)
      have w4:=w4 (by rw[(hobs _ hm).1,(hobs _ hm).2]; rfl)
      rw[v1] at w4
      cases w4
      simp only[zcY,dlt hi,cond_true,zaT hi,Option.bind_some]
      rw[w2,Option.bind_some,v2,Option.bind_some]
      simp only[Bool.not_true,cond_false]
      rw[zoY (a:=[list[i]]) ⟨by simp,fun o ho=>(List.mem_singleton.mp ho)▸fo.2 _ hm⟩,zeY,Option.bind_some,Bool.not_true,cond_false,zbZ hi (show list.length≤1048576 from fo.1)]
    have hW:=(zsC (l:=list) fo (skip:=[0]) (by decide)).2
    rw[cond_false,e1,Option.bind_some]
    simp only[]
    rw[hF,Option.bind_some,hP,Option.bind_some]
    simp only[Bool.not_true,cond_false]
    rw[hS,Option.bind_some,Bool.not_true,cond_false,hB,Option.bind_some,Bool.not_true,cond_false,hO,Option.bind_some,Bool.not_true,cond_false,hL,Option.bind_some]
    simp only[]
    rw[hW,Option.bind_some,zx7 list list.length (Nat.le_refl _),wrap_i64 (by have:=fo.1; omega) (by have:=fo.1; omega)]
    congr 1
    simp
    omega
end Go.Di
