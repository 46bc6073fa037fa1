/-
  Own work: part 4 of the texts that the proof of the given statement leans on.
-/
import Derived.Deep.LoopGhost
import Derived.ChangeShapes
import Derived.ChangeSame
import Derived.WideShapes
import Derived.WideKeyArgs
import Derived.OpenShut
import Derived.RowKit
import Derived.Lib.ItoaNum
import Derived.Lib.Join
import Derived.Lib.Repeat
import Derived.Lib.Bytealg
import Derived.Lib.IndexMore
import Derived.Lib.Atoi
import Derived.Test.YtemlaciidfaceaaGreatZD02
noncomputable section
open Go.RowKit (Below)
namespace Go.Di
def Bs.more (C:Bs) (fl:Nat→Option Nat) (w:World):Bs:=⟨fun b=>C.keep b∨∃ i,fl i=some b,w,fun b=>C.old b∧¬ ∃ i,fl i=some b,C.pin,C.fix,fun b=>C.sure b∧C.keep b,C.tk⟩
section
variable {P:Program} {C:Bs} {w w' w0:World} {s s':St} {X:Nat→Prop} {β β':Nat→Option Value} {tm:Array Value} {fl:Nat→Option Nat}
def ztQ (f:Nat→Option Nat) (n:Nat) (v:Option Nat):Nat→Option Nat:=fun m=>if m=n then v else f m
theorem zdj (f:Nat→Option Nat) (n:Nat) (v:Option Nat):ztQ f n v n=v:=by simp[ztQ]
theorem zbe (f:Nat→Option Nat) {n m:Nat} (v:Option Nat) (h:m≠n):ztQ f n v m=f m:=by simp[ztQ,h]
theorem Gam.zBT (g:Gam (C.more fl w0) s X β tm w):Gam (C.more fl w) s X β tm w :=
  ⟨g.len,g.env,g.ents,g.uniq,g.fresh,g.kb,Kp.refl _ _,g.pin,g.np,g.bs,fun b p hp=>⟨(g.fx b p hp).1,g.fxw b p hp⟩,g.tk⟩
theorem Gam.zB7 (g:Gam C s X β tm w):Gam (C.more (fun _=>none) w) s X β tm w:=by
  have hk:∀ b,(C.more (fun _=>none) w).keep b↔C.keep b:=fun b=>⟨fun h=>h.elim id (fun ⟨_,h⟩=>by cases h),fun h => .inl h⟩
  have hc:cx (C.more (fun _=>none) w) s β w=cx C s β w:=by
    simp only[cx,Cx.mk.injEq,true_and]
    funext b
    simp[Bs.more]
  exact ⟨g.len,fun t av hx h=>by rw[hc]; exact g.env t av hx h,fun n e v h1 h2=>by rw[hc]; exact g.ents n e v h1 h2,g.uniq,fun b hb=>⟨fun h=>(g.fresh b hb).1 ((hk b).1 h),(g.fresh b hb).2⟩,fun b hb=>g.kb b ((hk b).1 hb),Kp.refl _ _,g.pin,g.np,g.bs,fun b p hp=>⟨⟨(g.fx b p hp).1,.inl (g.fx b p hp).1.2⟩,g.fxw b p hp⟩,g.tk⟩
theorem Gam.zrm (g:Gam (C.more fl w0) s X β tm w) (h:∀ i,fl i=none) (hk:Kp C.keep C.w0 w):Gam C s X β tm w:=by
  have hno:∀ b,¬ ∃ i,fl i=some b:=fun b ⟨i,hi⟩=>by rw[h i] at hi; cases hi
  have hc:cx (C.more fl w0) s β w=cx C s β w:=by
    simp only[cx,Cx.mk.injEq,true_and]
    funext b
    simp[Bs.more,h]
  exact ⟨g.len,fun t av hx h=>by rw[← hc]; exact g.env t av hx h,fun n e v h1 h2=>by rw[← hc]; exact g.ents n e v h1 h2,g.uniq,fun b hb=>⟨fun h=>(g.fresh b hb).1 (.inl h),(g.fresh b hb).2⟩,fun b hb=>g.kb b (.inl hb),hk,g.pin,g.np,g.bs,fun b p hp=>by
    obtain ⟨cs,t,fr,h1,h2⟩:=g.fxw b p hp
    exact ⟨(g.fx b p hp).1.1,cs,t,fr,(hk.block b (g.fx b p hp).1.1.2).symm.trans h1,h2⟩,g.tk⟩
theorem Gam.fly (g:Gam (C.more fl w0) s X β tm w) {i:Nat} (hi:fl i=none) (o:Obj) (d:Nat) (v:Value) :
    Gam (C.more (ztQ fl i (some w.heap.size)) (w.alloc o)) s (fun t=>X t∨t=d) β (tm.setIfInBounds d v) (w.alloc o):=by
  have hb:Below w.heap.size w (w.alloc o):=zaU w o
  have hsz:(w.alloc o).heap.size=w.heap.size+1:=by simp
  have hin:∀ b,(∃ j,ztQ fl i (some w.heap.size) j=some b)↔(∃ j,fl j=some b)∨b=w.heap.size:=by
    intro b
    constructor
    · rintro ⟨j,hj⟩
      by_cases e:j=i
      · subst e; rw[zdj] at hj; cases hj; exact .inr rfl
      · rw[zbe _ _ e] at hj; exact .inl ⟨j,hj⟩
    · rintro (⟨j,hj⟩ | rfl)
      · have e:j≠i:=by intro e; subst e; rw[hi] at hj; cases hj
        exact ⟨j,by rw[zbe _ _ e]; exact hj⟩
      · exact ⟨i,zdj ..⟩
  -- what was read before is read now
  have hrd : ∀ v c,(cx (C.more fl w0) s β w).rd v c→(cx (C.more (ztQ fl i (some w.heap.size)) (w.alloc o)) s β (w.alloc o)).rd v c:=by
    rintro v c ⟨fp,h1,h2⟩
    refine ⟨fp,h1.ext fun b hb'=>hb.block b (h2 b hb').1,fun b hb'=>⟨?_,(h2 b hb').2.1,?_⟩⟩
    · have:=(h2 b hb').1; show b < (w.alloc o).heap.size; simp only[cx] at this; omega
    · have hlt:b < w.heap.size:=(h2 b hb').1
      rcases (h2 b hb').2.2 with h | h
      · refine .inl fun hk=>?_
        rcases hk with hk | hk
        · exact h (.inl hk)
        · rcases (hin b).1 hk with hk | hk
          · exact h (.inr hk)
          · omega
      · refine .inr ⟨h.1,fun hk=>?_⟩
        rcases (hin b).1 hk with hk | hk
        · exact h.2 hk
        · omega
  have hfine:∀ b,(cx (C.more fl w0) s β w).fine [b]→(cx (C.more (ztQ fl i (some w.heap.size)) (w.alloc o)) s β (w.alloc o)).fine [b]:=by
    intro b hf b' hb'
    simp only[List.mem_singleton] at hb'; subst hb'
    have h2:=hf b' (List.mem_cons_self ..)
    have hlt:b' < w.heap.size:=h2.1
    refine ⟨?_,h2.2.1,?_⟩
    · show b' < (w.alloc o).heap.size; omega
    · rcases h2.2.2 with h | h
      · refine .inl fun hk=>?_
        rcases hk with hk | hk
        · exact h (.inl hk)
        · rcases (hin b').1 hk with hk | hk
          · exact h (.inr hk)
          · omega
      · refine .inr ⟨h.1,fun hk=>?_⟩
        rcases (hin b').1 hk with hk | hk
        · exact h.2 hk
        · omega
  have hcat:∀ b q cs,(cx (C.more fl w0) s β w).za7 b q cs→(cx (C.more (ztQ fl i (some w.heap.size)) (w.alloc o)) s β (w.alloc o)).za7 b q cs:=by
    intro b q cs h2
    refine ⟨h2.1.imp id (hfine b),fun j c hc=>?_⟩
    obtain ⟨u,hu,hd⟩:=h2.2 j c hc
    refine ⟨u,?_,hrd u c hd⟩
    rcases h2.1 with h0 | h0
    · subst h0; cases hc
    · have:=h0 b (List.mem_cons_self ..)
      show (w.alloc o).cell? _=_
      rw[World.cell?_of_block (w:=w) (hb.block b this.1)]; exact hu
  have ha1:∀ b v,A1Ok (cx (C.more fl w0) s β w) b v→A1Ok (cx (C.more (ztQ fl i (some w.heap.size)) (w.alloc o)) s β (w.alloc o)) b v:=by
    intro b v h
    cases b with
    | d c=>exact hrd v c h
    | sp cs off =>
      obtain ⟨b,q,h1,h2⟩:=h
      exact ⟨b,q,h1,hcat b q cs h2⟩
    | fn f caps =>
      obtain ⟨vs,h1,h2,h3⟩:=h
      refine ⟨vs,h1,h2,fun j cs hj=>?_⟩
      obtain ⟨b,q,h4,h5⟩:=h3 j cs hj
      exact ⟨b,q,h4,hcat b q cs h5⟩
    | _=>exact h
  have hl1:∀ l vs,zck (cx (C.more fl w0) s β w) l vs→zck (cx (C.more (ztQ fl i (some w.heap.size)) (w.alloc o)) s β (w.alloc o)) l vs:=fun l vs h=>h.conv fun a _ v ha=>ha1 a v ha
  refine ⟨by simp[g.len],fun t av hx h=>?_,fun n e u h1 h2=>?_,g.uniq,fun b h=>?_,fun b h=>?_,Kp.refl _ _,g.pin,g.np,g.bs,fun b p hp=>⟨⟨(g.fx b p hp).1.1,.inl (g.fx b p hp).1.1.2⟩,by
    obtain ⟨cs,t,fr,h1,h2⟩:=g.fxw b p hp
    exact ⟨cs,t,fr,(hb.block b (g.kb b (g.fx b p hp).1.2)).trans h1,h2⟩⟩,g.tk⟩
  · have hne:d≠t:=fun e=>hx (.inr e.symm)
    have hv:(tm.setIfInBounds d v).getD t undef=tm.getD t undef:=by
      rw[Array.getD_eq_getD_getElem?,Array.getD_eq_getD_getElem?,Array.getElem?_setIfInBounds_ne hne]
    rw[hv]
    have:=g.env t av (fun h=>hx (.inl h)) h
    cases av with
    | v gg l=>exact VOk.conv (fun a _ v ha=>ha1 a v ha) this
    | tup ps=>obtain ⟨vs,e1,e2⟩:=this; exact ⟨vs,e1,e2.conv fun p _ a _ v ha=>ha1 a v ha⟩
  · have := g.ents n e u h1 h2
    have hT:e.mut=true→∀ b∈zaq u,b < w.heap.size:=fun hm b hbt=>(g.fresh b ⟨n,e,u,h1,hm,h2,hbt⟩).2
    cases e with
    | pool q=>exact zir.go this fun b hbt=>hb.block b (hT rfl b hbt)
    | box l =>
      obtain ⟨b,vs,T,k1,k2,k3⟩:=this
      refine ⟨b,vs,T,k1,?_,hl1 _ _ k3⟩
      show (w.alloc o).heap[b]? = _
      rw[hb.block b (hT rfl b (by subst k1; simp[zaq]))]; exact k2
    | deep fr t xs =>
      cases fr with
      | false=>exact DeepOk.go this fun b hbt=>hb.block b (hT rfl b hbt)
      | true =>
        obtain ⟨sv,us,e1,hcd,h4⟩:=this
        refine ⟨sv,us,e1,hcd,?_⟩
        rcases h4 with h0 | ⟨gb,cap,k1,k2,k3,k4⟩
        · exact .inl h0
        · refine .inr ⟨gb,cap,k1,k2,hfine gb k3,fun j c hc=>?_⟩
          obtain ⟨u,b,q1,q2,q3,q4⟩:=k4 j c hc
          refine ⟨u,b,?_,q2,hrd u c q3,q4⟩
          have:=k3 gb (List.mem_cons_self ..)
          show (w.alloc o).cell? _=_
          rw[World.cell?_of_block (w:=w) (hb.block gb this.1)]; exact q1
    | arr fr t xs =>
      cases fr with
      | true=>exact hrd _ _ this
      | false =>
        rcases this with h0 | ⟨gb,cap,cur,T,k1,k2,k3,k4,k5,k6,k7⟩
        · exact .inl h0
        · refine .inr ⟨gb,cap,cur,T,k1,k2,k3,k4,?_,k6,fun j c hc=>?_⟩
          · show (w.alloc o).heap[gb]? = _
            rw[hb.block gb (hT rfl gb (by subst k1; cases cap with | zero=>omega | succ q=>simp[zaq]))]; exact k5
          · obtain ⟨u',q1,q2⟩:=k7 j c hc
            exact ⟨u',q1,hrd u' c q2⟩
  · obtain ⟨q1,q2⟩:=g.fresh b h
    refine ⟨fun hk=>?_,by omega⟩
    rcases hk with hk | hk
    · exact q1 (.inl hk)
    · rcases (hin b).1 hk with hk | hk
      · exact q1 (.inr hk)
      · omega
  · rcases h with hk | hk
    · have:=g.kb b (.inl hk); omega
    · rcases (hin b).1 hk with hk | hk
      · have:=g.kb b (.inr hk); omega
      · omega
theorem Gam.land (g:Gam (C.more fl w0) s X β tm w) {i b n:Nat} (hi:fl i=some b) (hinj:∀ j,fl j=some b→j=i) (hkb:¬ C.keep b) (hn:n % 64≠63) {l:List A1} {vs:Array Value} {T:TypeId}
    (hl:∀ x:Cx,zck x l vs.toList) (hh:w.heap[b]? = some (.cells vs T (0,0))) :
    Gam (C.more (ztQ fl i none) w) (s.push n (.box l)) X (upd β n (.pointer (some ⟨b,0,none⟩))) tm w:=by
  have g1:=g.free n
  obtain ⟨hno1,hno2⟩:=zoN n s
  have hblt:b < w.heap.size:=by
    rcases Nat.lt_or_ge b w.heap.size with h | h
    · exact h
    · rw[Array.getElem?_eq_none h] at hh; cases hh
  have hkb':(C.more fl w0).keep b := .inr ⟨i,hi⟩
  have hin:∀ x,(∃ j,ztQ fl i none j=some x)↔(∃ j,fl j=some x)∧x≠b:=by
    intro x
    constructor
    · rintro ⟨j,hj⟩
      by_cases e:j=i
      · subst e; rw[zdj] at hj; cases hj
      · rw[zbe _ _ e] at hj
        exact ⟨⟨j,hj⟩,fun hx=>e (hinj j (hx▸hj))⟩
    · rintro ⟨⟨j,hj⟩,hx⟩
      have e:j≠i:=by intro e; subst e; rw[hi] at hj; cases hj; exact hx rfl
      exact ⟨j,by rw[zbe _ _ e]; exact hj⟩
  have hlk:∀ m,look m (s.push n (.box l)).ents=if m=n then some (.box l) else look m (s.free n).ents:=fun m=>by
    show look m (put n (.box l) (s.free n).ents)=_
    rw[za6]
  have htop:∀ x,Top (fun m=>look m (s.push n (.box l)).ents) (upd β n (.pointer (some ⟨b,0,none⟩))) x→x=b∨Top (fun m=>look m (s.free n).ents) β x:=by
    rintro x ⟨m,e,v,h1,h2,h3,h4⟩
    simp only[hlk] at h1
    split at h1
    · rename_i hm; subst hm
      cases h1
      rw[upd_same] at h3; cases h3
      simp[zaq] at h4; exact .inl h4
    · rename_i hm
      rw[zax _ _ hm] at h3
      exact .inr ⟨m,e,v,h1,h2,h3,h4⟩
  have hPN:PN≠n:=fun h=>hn (h▸by decide)
  have htk:zd1 (upd β n (.pointer (some ⟨b,0,none⟩)))=zd1 β:=by funext i; simp only[zd1,zax _ _ hPN]
  have hle:Le (cx (C.more fl w0) (s.free n) β w) (cx (C.more (ztQ fl i none) w) (s.push n (.box l)) (upd β n (.pointer (some ⟨b,0,none⟩))) w) (fun m=>m≠n):=by
    refine ⟨fun x h=>?_,fun _ _ _=>rfl,Nat.le_refl _,fun x hlt hav ht=>?_,fun m hm => .inr (.inl ⟨zax _ _ hm,.inl ?_⟩),fun m hm _ fr t xs h=>⟨fr,?_,zax _ _ hm⟩,fun i v h=>(congrFun htk i).trans h⟩
    · rcases h with h | h
      · refine .inl fun hk=>h ?_
        rcases hk with hk | hk
        · exact .inl hk
        · exact .inr ((hin x).1 hk).1
      · exact .inr ⟨h.1,fun hk=>h.2 ((hin x).1 hk).1⟩
    · rcases htop x ht with rfl | h
      · exfalso
        rcases hav with h | h
        · exact h hkb'
        · exact h.2 ⟨i,hi⟩
      · exact h
    · show look m (s.push n (.box l)).ents=look m (s.free n).ents
      rw[hlk,if_neg hm]
    · have h:look m (s.push n (.box l)).ents=some (.deep fr t xs):=h
      rw[hlk,if_neg hm] at h
      exact h
  refine ⟨g1.len,fun t av hx h=>?_,fun m e v h1 h2=>?_,?_,fun x h=>?_,fun x h=>?_,Kp.refl _ _,fun m v hp h=>?_,g.np,fun m e h=>?_,fun b p hp=>⟨⟨(g1.fx b p hp).1.1,.inl (g1.fx b p hp).1.1.2⟩,g1.fxw b p hp⟩,fun π hπ=>⟨htk.trans (g1.tk π hπ).1,by rw[hlk,if_neg hPN]; exact (g1.tk π hπ).2⟩⟩
  · exact hle.av (hno1.1 t av h) (g1.env t av hx h)
  · rw [hlk] at h1
    split at h1
    · rename_i hm; subst hm
      cases h1
      rw[upd_same] at h2; cases h2
      exact ⟨b,vs,T,rfl,hh,hl _⟩
    · rename_i hm
      rw[zax _ _ hm] at h2
      exact EntOk.le hle (hno1.2 m e h1) (fun _ _ _=>rfl) (g1.ents m e v h1 h2)
  · intro m1 m2 e1 e2 u1 u2 x h1 h2 h3 h4 h5 h6 h7 h8
    rw[hlk] at h1 h2
    have old:∀ m e u,look m (s.free n).ents=some e→e.mut=true→β m=some u→x∈zaq u→x≠b:=fun m e u k1 k2 k3 k4 hx =>
      (g1.fresh x ⟨m,e,u,k1,k2,k3,k4⟩).1 (hx▸hkb')
    split at h1<;>split at h2
    · rename_i a1 a2; rw[a1,a2]
    · rename_i a1 a2; subst a1; cases h1
      rw[upd_same] at h5; cases h5
      rw[zax _ _ a2] at h6
      simp[zaq] at h7
      exact absurd h7 (old m2 e2 u2 h2 h4 h6 h8)
    · rename_i a1 a2; subst a2; cases h2
      rw[upd_same] at h6; cases h6
      rw[zax _ _ a1] at h5
      simp[zaq] at h8
      exact absurd h8 (old m1 e1 u1 h1 h3 h5 h7)
    · rename_i a1 a2
      rw[zax _ _ a1] at h5; rw[zax _ _ a2] at h6
      exact g1.uniq m1 m2 e1 e2 u1 u2 x h1 h2 h3 h4 h5 h6 h7 h8
  · rcases htop x h with rfl | h
    · refine ⟨fun hk=>?_,hblt⟩
      rcases hk with hk | hk
      · exact hkb hk
      · exact ((hin x).1 hk).2 rfl
    · obtain ⟨q1,q2⟩:=g1.fresh x h
      refine ⟨fun hk=>q1 ?_,q2⟩
      rcases hk with hk | hk
      · exact .inl hk
      · exact .inr ((hin x).1 hk).1
  · rcases h with h | h
    · exact g.kb x (.inl h)
    · exact g.kb x (.inr ((hin x).1 h).1)
  · by_cases hm:m=n
    · subst hm; exact absurd (g.np m (by rw[show (C.more fl w0).pin m=some v from hp]; rfl)).1 hn
    · rw[zax _ _ hm]
      rw[hlk,if_neg hm] at h
      exact g1.pin m v hp h
  · by_cases hm:m=n
    · subst hm; rw[upd_same]; rfl
    · rw[zax _ _ hm]
      rw[hlk,if_neg hm] at h
      exact g1.bs m e h
end
end Go.Di
open Go.RowKit (Below)
namespace Go.Di
section
variable {P:Program} {C:Bs} {w w':World} {s s' s1:St} {X:Nat→Prop} {bt:Nat→Option Value} {a:Act} {o:Oper} {tm:Array Value} {β:Type}
  {K:Act→World→Prop} {Q:Exit→Act→World→Prop} {E:Env} {k:St→Option β} {r:β} {ops:Array Oper} {N:List Nat} {T:Nat→Prop}
/-! ### Ticks -/
def Un (listed:Array Bool) (j:Nat):Prop:=listed.getD j true=false
def Li (listed:Array Bool) (j:Nat):Prop:=listed.getD j false=true
theorem zho {l:Array Bool} {j:Nat} (h:Un l j):¬ Li l j:=by
  unfold Un Li at *
  intro h'
  rcases Nat.lt_or_ge j l.size with hl | hl
  · simp[Array.getD,hl] at h h'; rw[h] at h'; cases h'
  · simp[Array.getD,Nat.not_lt.2 hl] at h
theorem zPX {l:Array Bool} {j:Nat} (h:Un l j):j < l.size:=by
  unfold Un at h
  rcases Nat.lt_or_ge j l.size with hl | hl
  · exact hl
  · simp[Array.getD,Nat.not_lt.2 hl] at h
theorem zDI {l:Array Bool} {j:Nat} (hl:j < l.size) (h:¬ Un l j):Li l j:=by
  unfold Un Li at *
  simp[Array.getD,hl] at h ⊢; exact h
theorem zmf {l:Array Bool} {i j:Nat} (h:Li l j):Li (l.setIfInBounds i true) j:=getD_set_true h
theorem zu9 {l:Array Bool} {i:Nat} (h:i < l.size):Li (l.setIfInBounds i true) i:=by
  unfold Li; simp[Array.getD,h]
theorem zox {l:Array Bool} {i j:Nat} (h:Un l j) (hne:i≠j):Un (l.setIfInBounds i true) j:=by
  unfold Un at *; rw[getD_set_ne true hne]; exact h
theorem zzA {l:Array Bool} {i j:Nat} (h:Li (l.setIfInBounds i true) j):Li l j∨j=i:=by
  by_cases e:i=j
  · exact .inr e.symm
  · unfold Li at *; rw[getD_set_ne false e] at h; exact .inl h
/-! ### What the check of a plan says -/
theorem zy3 {pre:List Nat} (h:zB0 o pre=true):∀ e∈o.after,Region.binds .any e=true→e.on∈pre:=by
  intro e he hb
  have:=Array.all_eq_true_iff_forall_mem.1 h e he
  simp only[hb,Bool.not_true,Bool.false_or] at this
  exact zaC.1 this
theorem zgY {j:Nat} (h:zog o j=true):∃ e∈o.after,Region.binds .any e=true∧e.on=j:=by
  obtain ⟨e,he,hb⟩:=Array.any_eq_true'.1 h
  simp only[Bool.and_eq_true] at hb
  exact ⟨e,he,hb.1,Nat.eq_of_beq_eq_true hb.2⟩
structure HeadOk (ops:Array Oper) (pre:List Nat) (i:Nat) (A:List Nat) (rest:List (Nat × List Nat)) (o:Oper):Prop where
  preds:∀ e∈o.after,Region.binds .any e=true→e.on∈pre
  nin:i ∉ pre
  ear:early o=true→zgy ops i o=true
  forced:early o=false→∀ p∈rest,∃ o',ops[p.1]? = some o'∧(flo o'=true∨∃ e∈o'.after,Region.binds .any e=true∧(e.on=i∨∃ q∈rest,e.on=q.1∧∃ oq,ops[q.1]? = some oq∧flo oq=false))
  fl:early o=false→flo o=true→zgy ops i o=true
  anc:early o=false→ancOk ops o A []=true
  slots:early o=false→∀ q∈pre,q∈A∨∀ oq,ops[q]? = some oq→early oq=true→∀ d,o.dst=some d→d ∉ oq.looksAt ops∧oq.dst≠some d
  tail:planOk ops (i :: pre) rest=true
theorem planOk_head {pre:List Nat} {i:Nat} {A:List Nat} {rest:List (Nat × List Nat)} (h:planOk ops pre ((i,A) :: rest)=true):∃ o,ops[i]? = some o∧HeadOk ops pre i A rest o:=by
  unfold planOk at h
  cases ho:ops[i]? with
  | none=>rw[ho] at h; cases h
  | some o =>
    rw[ho] at h
    simp only[Bool.and_eq_true,Bool.not_eq_true'] at h
    obtain ⟨⟨⟨h1,h2⟩,h3⟩,h4⟩:=h
    refine ⟨o,rfl,zy3 h1,fun hm=>(by rw[zaC.2 hm] at h2; cases h2),fun he=>(by rw[he] at h3; exact h3),fun he p hp=>?_,fun he hf=>?_,fun he=>?_,fun he q hq=>?_,h4⟩
    · rw [he] at h3
      simp only[Bool.and_eq_true] at h3
      have:=List.all_eq_true.1 h3.1.1.1 p hp
      cases hop:ops[p.1]? with
      | none=>rw[hop] at this; cases this
      | some o' =>
        rw[hop] at this
        rcases (Bool.or_eq_true _ _).mp this with hf | this
        · exact ⟨o',rfl,.inl hf⟩
        obtain ⟨e,he',hb⟩:=Array.any_eq_true'.1 this
        simp only[Bool.and_eq_true,Bool.or_eq_true] at hb
        refine ⟨o',rfl,.inr ⟨e,he',hb.1,?_⟩⟩
        rcases hb.2 with h | h
        · exact .inl (Nat.eq_of_beq_eq_true h)
        · obtain ⟨q,hq,hqe⟩:=List.any_eq_true.1 h
          simp only[Bool.and_eq_true] at hqe
          refine .inr ⟨q,hq,Nat.eq_of_beq_eq_true hqe.1,?_⟩
          have h2:=hqe.2
          split at h2
          · rename_i oq hoq; exact ⟨oq,hoq,by simpa using h2⟩
          · cases h2
    · rw[he] at h3
      simp only[Bool.and_eq_true] at h3
      have:=h3.1.1.2
      rw[hf] at this
      simpa using this
    · rw[he] at h3
      simp only[Bool.and_eq_true] at h3
      exact h3.1.2
    · rw [he] at h3
      simp only[Bool.and_eq_true] at h3
      have:=List.all_eq_true.1 h3.2 q hq
      simp only[Bool.or_eq_true] at this
      rcases this with h | h
      · exact .inl (zaC.1 h)
      · refine .inr fun oq hoq heq d hd=>?_
        rw[hoq] at h
        simp only[heq,Bool.not_true,Bool.false_eq_true,false_or,hd,Bool.or_eq_true] at h
        unfold zFh at h
        simp only[Bool.and_eq_true,Bool.not_eq_true'] at h
        refine ⟨fun hm=>(by rw[zaC.2 hm] at h; cases h.1),fun he=>?_⟩
        rw[he] at h
        simp at h
theorem zfH:∀ {rest:List (Nat × List Nat)} {pre:List Nat},planOk ops pre rest=true→∀ p∈rest,p.1 ∉ pre
  | (i,A) :: rest,pre,h,p,hp=>by
    obtain ⟨o,ho,hh⟩:=planOk_head h
    rcases List.mem_cons.1 hp with rfl | hp
    · exact hh.nin
    · intro hm
      exact zfH hh.tail p hp (List.mem_cons_of_mem _ hm)
def zIP (ops:Array Oper):List Nat→Prop
  | []=>True
  | i :: pre=>(∃ o,ops[i]? = some o∧∀ e∈o.after,Region.binds .any e=true→e.on∈pre)∧zIP ops pre
theorem zki:∀ {pre:List Nat},zIP ops pre→∀ q∈pre,∃ o,ops[q]? = some o∧∀ e∈o.after,Region.binds .any e=true→e.on∈pre
  | i :: pre,h,q,hq=>by
    rcases List.mem_cons.1 hq with rfl | hq
    · obtain ⟨o,ho,hp⟩:=h.1
      exact ⟨o,ho,fun e he hb=>List.mem_cons_of_mem _ (hp e he hb)⟩
    · obtain ⟨o,ho,hp⟩:=zki h.2 q hq
      exact ⟨o,ho,fun e he hb=>List.mem_cons_of_mem _ (hp e he hb)⟩
theorem zmZ {listed:Array Bool} (hs:listed.size=ops.size) (hr:Region.ready .any ops listed=[]):∀ {pre:List Nat},zIP ops pre→∀ q∈pre,Li listed q
  | i :: pre,h,q,hq=>by
    rcases List.mem_cons.1 hq with rfl | hq
    · obtain ⟨o,ho,hp⟩:=h.1
      have hlt:q < listed.size:=by rw[hs]; exact (Array.getElem?_eq_some_iff.1 ho).1
      refine zDI hlt fun hu=>?_
      have:q∈Region.ready .any ops listed:=mem_ready.2 ⟨hu,o,ho,fun e he hb=>zmZ hs hr h.2 _ (hp e he hb)⟩
      rw[hr] at this; cases this
    · exact zmZ hs hr h.2 q hq
theorem anc_listed {listed:Array Bool} (hc:∀ j o,ops[j]? = some o→Li listed j→∀ e∈o.after,Region.binds .any e=true→Li listed e.on)
    (ho:∀ e∈o.after,Region.binds .any e=true→Li listed e.on):∀ {A known:List Nat},ancOk ops o A known=true→(∀ q∈known,Li listed q)→∀ q∈A,Li listed q
  | b :: A,known,h,hk,q,hq=>by
    unfold ancOk at h
    simp only[Bool.and_eq_true,Bool.or_eq_true] at h
    have hb:Li listed b:=by
      rcases h.1 with h1 | h1
      · obtain ⟨e,he,hb,rfl⟩:=zgY h1
        exact ho e he hb
      · obtain ⟨m,hm,h2⟩:=List.any_eq_true.1 h1
        cases hom:ops[m]? with
        | none=>rw[hom] at h2; cases h2
        | some om =>
          rw[hom] at h2
          obtain ⟨e,he,hb,rfl⟩:=zgY h2
          exact hc m om hom (hk m hm) e he hb
    rcases List.mem_cons.1 hq with rfl | hq
    · exact hb
    · exact anc_listed hc ho h.2 (fun q hq=>(by rcases List.mem_cons.1 hq with rfl | hq; exact hb; exact hk q hq)) q hq
theorem zeX {i:Nat} (h:zgy ops i o=true) {d:Nat} (hd:o.dst=some d):d ∉ o.looksAt ops∧∀ j oj,ops[j]? = some oj→j≠i→oj.dst≠some d∧(d∈oj.looksAt ops→zog oj i=true):=by
  unfold zgy at h
  rw[hd] at h
  simp only[Bool.and_eq_true,Bool.not_eq_true'] at h
  refine ⟨fun hm=>(by rw[zaC.2 hm] at h; cases h.1),fun j oj hj hne=>?_⟩
  have:=List.all_eq_true.1 h.2 j (List.mem_range.2 (Array.getElem?_eq_some_iff.1 hj).1)
  rw[hj] at this
  simp only[Bool.or_eq_true,Bool.and_eq_true,Bool.not_eq_true'] at this
  rcases this with h1 | ⟨h1,h2⟩
  · exact absurd (Nat.eq_of_beq_eq_true h1) hne
  · refine ⟨fun he=>(by rw[he] at h1; simp at h1),fun hm=>?_⟩
    rcases h2 with h2 | h2
    · rw[zaC.2 hm] at h2; cases h2
    · exact h2
theorem zi0 (h:early o=true):zgJ o=true:=by
  unfold early at h
  split at h
  · cases h
  · simp only[Bool.and_eq_true] at h; exact h.2
theorem zGZ (h:early o=true):zFC o=true:=by
  unfold early at h
  split at h
  · cases h
  · simp only[Bool.and_eq_true] at h; exact h.1
theorem zoH:∀ {rest:List (Nat × List Nat)} {pre:List Nat},planOk ops pre rest=true→∀ p∈rest,∀ o,ops[p.1]? = some o→early o=false→flo o=true→zgy ops p.1 o=true
  | (i,A) :: rest,pre,h,p,hp,o,ho,he,hf=>by
    obtain ⟨o',ho',hh⟩:=planOk_head h
    rcases List.mem_cons.1 hp with rfl | hp
    · rw[ho] at ho'; cases ho'; exact hh.fl he hf
    · exact zoH hh.tail p hp o ho he hf
theorem zp4 (h:flo o=true):∃ t d,o.op = .alloc t∧o.guard=none∧o.dst=some d:=by
  unfold flo at h
  split at h
  · exact ⟨_,_,by assumption,by assumption,by assumption⟩
  · cases h
theorem zp5 (h:flo o=true):early o=false:=by
  obtain ⟨t,d,h1,_,_⟩:=zp4 h
  simp[early,h1,zgJ]
/-! ### The walk through any order -/
structure FlOk (C:Bs) (lay:List (TypeId × TI)) (ops:Array Oper) (listed:Array Bool) (rest:List (Nat × List Nat)) (tm:Array Value) (w:World) (q b:Nat):Prop where
  keep:¬ C.keep b
  li:Li listed q
  rest:∃ A,(q,A)∈rest
  op : ∃ o t d i vs,ops[q]? = some o∧flo o=true∧o.op = .alloc t∧o.dst=some d∧zgy ops q o=true∧tm.setIfInBounds d (.pointer (some ⟨b,0,none⟩))=tm∧zcm t lay=some i ∧
    w.heap[b]? = some (.cells vs t (0,0))∧∀ x:Cx,zck x i.zero vs.toList
structure Inv (C:Bs) (E:Env) (ops:Array Oper) (k:St→Option β) (r:β) (listed:Array Bool) (pre:List Nat) (rest op:List (Nat × List Nat)) (Pd:List Nat) (fl:Nat→Option Nat) (s:St) (X:Nat→Prop) (bt:Nat→Option Value) (a:Act) (w:World):Prop where
  gam:Gam (C.more fl w) s X bt a.tmps w
  kp:Kp C.keep C.w0 w
  defers:a.defers=[]
  hx:∀ t,X t→(∃ q∈Pd,∃ o,ops[q]? = some o∧o.dst=some t)∨∃ q b o,fl q=some b∧ops[q]? = some o∧o.dst=some t
  size:listed.size=ops.size
  all:∀ j,j < ops.size→Li listed j∨(∃ p∈rest,p.1=j)∨j∈Pd
  unR:∀ p∈rest,Un listed p.1∨∃ b,fl p.1=some b
  unP:∀ q∈Pd,Un listed q
  pdPre:∀ q∈Pd,q∈pre
  pdNodup:Pd.Nodup
  stab:∀ q∈Pd,∃ o N,ops[q]? = some o∧(q,N)∈op∧early o=true∧zgy ops q o=true∧Stable E ops.toList o s N
  closed:∀ j o,ops[j]? = some o→Li listed j→∀ e∈o.after,Region.binds .any e=true→Li listed e.on
  preOk:zIP ops pre
  plan:planOk ops pre rest=true
  run:runD E ops.toList rest op s k=some r
  flOk:∀ q b,fl q=some b→FlOk C E.lay ops listed rest a.tmps w q b
  flInj:∀ q q' b,fl q=some b→fl q'=some b→q=q'
theorem Inv.ahead {listed:Array Bool} {pre:List Nat} {rest op:List (Nat × List Nat)} {Pd A:List Nat} {i:Nat} {fl:Nat→Option Nat} (h:Inv C E ops k r listed pre ((i,A) :: rest) op Pd fl s X bt a w)
    (ho:ops[i]? = some o) (he:early o=true):∃ op' s' X',Inv C E ops k r listed (i :: pre) rest op' (i :: Pd) fl s' X' bt a w:=by
  obtain ⟨o2,ho2,hh⟩:=planOk_head h.plan
  rw[ho] at ho2; cases ho2
  have hrun:=h.run
  unfold runD at hrun
  rw[Array.getElem?_toList,ho] at hrun
  simp only[he] at hrun
  obtain ⟨s',hst,hk⟩:=runOp_stp hrun
  have hp:=zi0 he
  have hE:=hh.ear he
  have hwf:zFC o=true:=zGZ he
  obtain ⟨⟨av,hs'⟩,hstab⟩:=hst.stable hp (fun d hd=>(zeX hE hd).1) hwf
  have hfi:∀ b,fl i≠some b:=fun b hb=>by
    obtain ⟨o3,t,d,i3,vs,e1,e2,_⟩:=(h.flOk i b hb).op
    rw[ho] at e1; cases e1
    rw[zp5 e2] at he; cases he
  refine ⟨_,s',fun t=>X t∨o.dst=some t,?_,h.kp,h.defers,fun t ht=>?_,h.size,fun j hj=>?_,fun p hp=>h.unR p (List.mem_cons_of_mem _ hp),fun q hq=>?_,fun q hq=>?_,?_,fun q hq=>?_,h.closed,⟨⟨o,ho,hh.preds⟩,h.preOk⟩,hh.tail,hk,fun q b hq=>?_,h.flInj⟩
  · rw[hs']
    cases hd:o.dst with
    | none=>exact h.gam.weaken fun t ht => .inl ht
    | some d=>exact (h.gam.zRo d av).weaken fun t ht=>ht.imp id fun e=>by rw[e]
  · rcases ht with ht | ht
    · rcases h.hx t ht with ⟨q,hq,x⟩ | x
      · exact .inl ⟨q,List.mem_cons_of_mem _ hq,x⟩
      · exact .inr x
    · exact .inl ⟨i,List.mem_cons_self ..,o,ho,ht⟩
  · rcases h.all j hj with h1 | ⟨p,hp,rfl⟩ | h1
    · exact .inl h1
    · rcases List.mem_cons.1 hp with rfl | hp
      · exact .inr (.inr (List.mem_cons_self ..))
      · exact .inr (.inl ⟨p,hp,rfl⟩)
    · exact .inr (.inr (List.mem_cons_of_mem _ h1))
  · rcases List.mem_cons.1 hq with rfl | hq
    · exact (h.unR _ (List.mem_cons_self ..)).resolve_right fun ⟨b,hb⟩=>hfi b hb
    · exact h.unP q hq
  · rcases List.mem_cons.1 hq with rfl | hq
    · exact List.mem_cons_self ..
    · exact List.mem_cons_of_mem _ (h.pdPre q hq)
  · exact List.nodup_cons.2 ⟨fun hm=>hh.nin (h.pdPre i hm),h.pdNodup⟩
  · rcases List.mem_cons.1 hq with rfl | hq
    · exact ⟨o,_,ho,List.mem_cons_self ..,he,hE,hstab⟩
    · obtain ⟨oq,M,h1,h2,h3,h4,h5⟩:=h.stab q hq
      refine ⟨oq,M,h1,List.mem_cons_of_mem _ h2,h3,h4,?_⟩
      rw[hs']
      cases hd:o.dst with
      | none=>exact h5
      | some d =>
        have hne:q≠i:=fun e=>hh.nin (e▸h.pdPre q hq)
        obtain ⟨h6,h7⟩:=(zeX hE hd).2 q oq h1 hne
        refine h5.set (zi0 h3) (fun hm=>?_) h6
        obtain ⟨e,he',hb,heq⟩:=zgY (h7 hm)
        obtain ⟨o3,ho3,hp3⟩:=zki h.preOk q (h.pdPre q hq)
        rw[h1] at ho3; cases ho3
        have:=hp3 e he' hb
        rw[heq] at this
        exact hh.nin this
  · have hf:=h.flOk q b hq
    refine ⟨hf.keep,hf.li,?_,hf.op⟩
    obtain ⟨B,hB⟩:=hf.rest
    rcases List.mem_cons.1 hB with e | hB
    · cases e; exact absurd hq (hfi b)
    · exact ⟨B,hB⟩
end
end Go.Di
open Go.RowKit (Below)
namespace Go.Di
section
variable {P:Program} {C:Bs} {w w':World} {s s' s1:St} {X:Nat→Prop} {bt:Nat→Option Value} {a:Act} {o:Oper} {tm:Array Value} {β:Type}
  {K:Act→World→Prop} {Q:Exit→Act→World→Prop} {E:Env} {k:St→Option β} {r:β} {ops:Array Oper} {N:List Nat} {T:Nat→Prop}
  {listed:Array Bool} {pre:List Nat} {rest op:List (Nat × List Nat)} {Pd A:List Nat} {i:Nat} {fl:Nat→Option Nat}
theorem zBW (g:Gam C s X bt a.tmps w) {av:AV} {v:Value} (ha:zaR (cx C s bt w) av v) (d:Option Nat) :
    Gam C (zmC d av s) (fun t=>X t∧d≠some t) bt (a.put d v).tmps w:=by
  cases d with
  | none=>exact g.weaken fun t ht=>⟨ht,by simp⟩
  | some d=>exact (g.set ha).weaken fun t ht=>⟨ht.1,fun e=>ht.2 (by cases e; rfl)⟩
theorem put_defers (d:Option Nat) (v:Value):(a.put d v).defers=a.defers:=by cases d<;>rfl
theorem Inv.free (h:Inv C E ops k r listed pre rest op Pd fl s X bt a w) (ho:ops[i]? = some o) (hr:∀ e∈o.after,Region.binds .any e=true→Li listed e.on) (hpre:∀ e∈o.after,Region.binds .any e=true→e.on∈pre)
    (hself:i∈Pd→∀ d,o.dst=some d→d ∉ o.looksAt ops) (hnfl:∀ b,fl i≠some b):∀ t∈o.looksAt ops,¬ X t:=by
  intro t ht hX
  rcases h.hx t hX with ⟨q,hq,oq,h1,h2⟩ | ⟨q,b,oq,hq,h1,h2⟩
  · by_cases e:q=i
    · subst e
      rw[ho] at h1; cases h1
      exact hself hq t h2 ht
    · obtain ⟨oq',M,h3,_,h5,h6,_⟩:=h.stab q hq
      rw[h1] at h3; cases h3
      obtain ⟨e',he',hb,heq⟩:=zgY (((zeX h6 h2).2 i o ho (Ne.symm e)).2 ht)
      have:=hr e' he' hb
      rw[heq] at this
      exact zho (h.unP q hq) this
  · have e:q≠i:=fun e=>hnfl b (e▸hq)
    have hf:=h.flOk q b hq
    obtain ⟨o3,t3,d3,i3,vs,e1,e2,e3,e4,e5,_⟩:=hf.op
    rw[h1] at e1; cases e1
    obtain ⟨e',he',hb,heq⟩:=zgY (((zeX e5 h2).2 i o ho (Ne.symm e)).2 ht)
    have:=hpre e' he' hb
    rw[heq] at this
    obtain ⟨B,hB⟩:=hf.rest
    exact zfH h.plan _ hB this
theorem znL {rest':List (Nat × List Nat)} {lay:List (TypeId × TI)} {q b:Nat} (hf:FlOk C lay ops listed rest a.tmps w q b) (hblk:w'.heap[b]? = w.heap[b]?) (ho:ops[i]? = some o) (hne:q≠i) {v:Value} {l':Array Bool} (hl:Li listed q→Li l' q)
    (hrest:(∃ A,(q,A)∈rest)→∃ A,(q,A)∈rest'):FlOk C lay ops l' rest' (a.put o.dst v).tmps w' q b:=by
  obtain ⟨o3,t3,d3,i3,vs,e1,e2,e3,e4,e5,e6,e7,e8,e9⟩:=hf.op
  refine ⟨hf.keep,hl hf.li,hrest hf.rest,o3,t3,d3,i3,vs,e1,e2,e3,e4,e5,?_,e7,by rw[hblk]; exact e8,e9⟩
  cases hd:o.dst with
  | none=>exact e6
  | some d =>
    have:d≠d3:=fun e=>((zeX e5 e4).2 i o ho (Ne.symm hne)).1 (by rw[hd,e])
    show (a.tmps.setIfInBounds d v).setIfInBounds d3 _=a.tmps.setIfInBounds d v
    rw[← Array.setIfInBounds_comm _ _ this.symm,e6]
theorem zln (hc:∀ j o,ops[j]? = some o→Li listed j→∀ e∈o.after,Region.binds .any e=true→Li listed e.on) (ho:ops[i]? = some o) (hr:∀ e∈o.after,Region.binds .any e=true→Li listed e.on) :
    ∀ j o,ops[j]? = some o→Li (listed.setIfInBounds i true) j→∀ e∈o.after,Region.binds .any e=true→Li (listed.setIfInBounds i true) e.on:=by
  intro j oj hj hl e he hb
  rcases zzA hl with h | rfl
  · exact zmf (hc j oj hj h e he hb)
  · rw[ho] at hj; cases hj; exact zmf (hr e he hb)
theorem Inv.nfl (h:Inv C E ops k r listed pre rest op Pd fl s X bt a w) (hr:Un listed i):∀ b,fl i≠some b:=fun b hb=>zho hr (h.flOk i b hb).li
theorem Inv.pend (hL:zcC P E.lay) (hC:zaj P C.fix E.cons) (h:Inv C E ops k r listed pre rest op Pd fl s X bt a w) (hi:i∈Pd) (hr:i∈Region.ready .any ops listed)
    (hK:∀ X' bt' a' w',Inv C E ops k r (listed.setIfInBounds i true) pre rest op (Pd.erase i) fl s X' bt' a' w'→K a' w'):wpOp P ops Q i K a w:=by
  obtain ⟨o,N,ho,hN,he,hE,hst⟩:=h.stab i hi
  obtain ⟨hu,o2,ho2,hp⟩:=mem_ready.1 hr
  rw[ho] at ho2; cases ho2
  have hnf:=h.nfl hu
  have hpre:∀ e∈o.after,Region.binds .any e=true→e.on∈pre:=by
    obtain ⟨o3,ho3,hp3⟩:=zki h.preOk i (h.pdPre i hi)
    rw[ho] at ho3; cases ho3; exact hp3
  have hX:=h.free ho hp hpre (fun _ d hd=>(zeX hE hd).1) hnf
  have next:∀ {av:AV} {v:Value} {bt' w'},Gam (C.more fl w) s X bt' a.tmps w'→zaR (cx (C.more fl w) s bt' w') av v→zmC o.dst av s=s→K (a.put o.dst v) w':=by
    intro av v bt' w' g hav hself
    have g':=zBW g hav o.dst
    rw[hself] at g'
    have hn:=h.pdNodup
    refine hK _ _ _ _ ⟨g'.zBT,h.kp.trans (g.below.mono fun b hb => .inl hb),by rw[put_defers]; exact h.defers,fun t ht=>?_,by simp[h.size],fun j hj=>?_,fun p hp=>?_,fun q hq=>?_,fun q hq=>?_,hn.erase i,fun q hq=>?_,zln h.closed ho hp,h.preOk,h.plan,h.run,fun q b hq=>?_,h.flInj⟩
    · rcases h.hx t ht.1 with ⟨q,hq,oq,h1,h2⟩ | x
      · refine .inl ⟨q,(hn.mem_erase_iff).2 ⟨fun e=>?_,hq⟩,oq,h1,h2⟩
        subst e; rw[ho] at h1; cases h1; exact ht.2 h2
      · exact .inr x
    · by_cases e:j=i
      · exact .inl (by subst e; exact zu9 (by rw[h.size]; exact hj))
      · rcases h.all j hj with h1 | h1 | h1
        · exact .inl (zmf h1)
        · exact .inr (.inl h1)
        · exact .inr (.inr ((hn.mem_erase_iff).2 ⟨e,h1⟩))
    · exact (h.unR p hp).imp (fun hx=>zox hx fun e=>zfH h.plan p hp (e▸h.pdPre i hi)) id
    · have:=(hn.mem_erase_iff).1 hq
      exact zox (h.unP q this.2) (Ne.symm this.1)
    · exact h.pdPre q ((hn.mem_erase_iff).1 hq).2
    · exact h.stab q ((hn.mem_erase_iff).1 hq).2
    · exact znL (h.flOk q b hq) (g.below.block b (.inr ⟨q,hq⟩)) ho (fun e=>hnf b (e▸hq)) zmf id
  unfold wpOp
  rw[ho]
  simp only
  obtain ⟨c,hc⟩:=hst.known
  rw[wantedA_sound h.gam hX hc]
  cases c with
  | true =>
    obtain ⟨av,h1,h2,_⟩:=hst.yes hc
    rw[if_pos rfl]
    exact .inl (zih hL (by exact hC) hst.wf h.gam (fun t ht=>hX t (zns ht)) h1 fun v w' bt' g hav=>next g hav h2)
  | false =>
    simp only[Bool.false_eq_true,if_false]
    exact next h.gam zMU (hst.no hc)
theorem Inv.zwc (h:Inv C E ops k r listed pre ((i,A) :: rest) op Pd fl s X bt a w) (_ho:ops[i]? = some o) (he:early o=false) (hh:HeadOk ops pre i A rest o) (hA:∀ q∈A,Li listed q) {av:AV}
    (hsep:zkD (zv7 E.cons s o) (zsf A op)=true) (hkeep:Keep (fun n=>touch E.cons s o n=true) (fun n=>zec E.cons s o n=true) s s1) (hs':s'=zmC o.dst av s1) :
    ∀ q∈Pd,∃ o N,ops[q]? = some o∧(q,N)∈zsf A op∧early o=true∧zgy ops q o=true∧Stable E ops.toList o s' N:=by
  intro q hq
  obtain ⟨oq,M,h1,h2,h3,h4,h5⟩:=h.stab q hq
  have hqA:q ∉ A:=fun hm=>zho (h.unP q hq) (hA q hm)
  have hmem:=znt hqA h2
  have hkeep':=h5.keep (zi0 h3) hkeep (fun n hn=>by
    have h:=zkh hsep _ hmem _ hn
    unfold zv7 at h
    rw[show 2 * n % 2=0 by omega,show 2 * n / 2=n by omega] at h
    have h':touch E.cons s o n=false:=h
    rw[h']; simp) (fun n hn=>by
    have h:=zkh hsep _ hmem _ hn
    unfold zv7 at h
    rw[show (2 * n+1) % 2=1 by omega,show (2 * n+1) / 2=n by omega] at h
    have h':zec E.cons s o n=false:=h
    rw[h']; simp)
  refine ⟨oq,M,h1,hmem,h3,h4,?_⟩
  rw[hs']
  cases hd:o.dst with
  | none=>exact hkeep'
  | some d =>
    rcases hh.slots he q (h.pdPre q hq) with h6 | h6
    · exact absurd h6 hqA
    · obtain ⟨h7,h8⟩:=h6 oq h1 h3 d hd
      exact hkeep'.set (zi0 h3) h7 h8
theorem Inv.late (hL:zcC P E.lay) (hC:zaj P C.fix E.cons) (h:Inv C E ops k r listed pre ((i,A) :: rest) op Pd fl s X bt a w) (ho:ops[i]? = some o) (he:early o=false) (hr:i∈Region.ready .any ops listed)
    (hK:∀ op' s' X' bt' a' w',Inv C E ops k r (listed.setIfInBounds i true) (i :: pre) rest op' Pd fl s' X' bt' a' w'→K a' w'):wpOp P ops Q i K a w:=by
  obtain ⟨hu,o2,ho2,hp⟩:=mem_ready.1 hr
  rw[ho] at ho2; cases ho2
  obtain ⟨o3,ho3,hh⟩:=planOk_head h.plan
  rw[ho] at ho3; cases ho3
  have hnf:=h.nfl hu
  have hin:i ∉ Pd:=fun hm=>hh.nin (h.pdPre i hm)
  have hX:=h.free ho hp hh.preds (fun hm=>absurd hm hin) hnf
  have hA:∀ q∈A,Li listed q:=anc_listed h.closed hp (hh.anc he) (fun q hq=>by cases hq)
  have hrun:=h.run
  unfold runD at hrun
  rw[Array.getElem?_toList,ho] at hrun
  simp only[he] at hrun
  split at hrun
  · rename_i hsep
    obtain ⟨s',hst,hk⟩:=runOp_stp hrun
    have next:∀ {av:AV} {v:Value} {bt' w' s1},Gam (C.more fl w) s1 X bt' a.tmps w'→zaR (cx (C.more fl w) s1 bt' w') av v→Keep (fun n=>touch E.cons s o n=true) (fun n=>zec E.cons s o n=true) s s1→s'=zmC o.dst av s1→K (a.put o.dst v) w':=by
      intro av v bt' w' s1 g hav hkeep hs'
      have g':=zBW g hav o.dst
      rw[← hs'] at g'
      refine hK _ _ _ _ _ _ ⟨g'.zBT,h.kp.trans (g.below.mono fun b hb => .inl hb),by rw[put_defers]; exact h.defers,fun t ht=>h.hx t ht.1,by simp[h.size],fun j hj=>?_,fun p hp=>?_,fun q hq=>?_,fun q hq=>List.mem_cons_of_mem _ (h.pdPre q hq),h.pdNodup,
        h.zwc ho he hh hA hsep hkeep hs',zln h.closed ho hp,⟨⟨o,ho,hh.preds⟩,h.preOk⟩,hh.tail,hk,fun q b hq=>?_,h.flInj⟩
      · rcases h.all j hj with h1 | ⟨p,hp,rfl⟩ | h1
        · exact .inl (zmf h1)
        · rcases List.mem_cons.1 hp with rfl | hp
          · exact .inl (zu9 (by rw[h.size]; exact hj))
          · exact .inr (.inl ⟨p,hp,rfl⟩)
        · exact .inr (.inr h1)
      · refine (h.unR p (List.mem_cons_of_mem _ hp)).imp (fun hx=>zox hx fun e=>?_) id
        exact zfH hh.tail p hp (by rw[← e]; exact List.mem_cons_self ..)
      · exact zox (h.unP q hq) fun e=>hin (e▸hq)
      · have hne:q≠i:=fun e=>hnf b (e▸hq)
        refine znL (h.flOk q b hq) (g.below.block b (.inr ⟨q,hq⟩)) ho hne zmf fun ⟨B,hB⟩=>?_
        rcases List.mem_cons.1 hB with e | hB
        · cases e; exact absurd rfl hne
        · exact ⟨B,hB⟩
    unfold wpOp
    rw[ho]
    simp only
    rcases hst with ⟨hw,hwf,av,s1,hy,hs'⟩ | ⟨hw,hs'⟩
    · rw[wantedA_sound h.gam hX hw,if_pos rfl]
      exact .inl (zih hL (by exact hC) hwf h.gam (fun t ht=>hX t (zns ht)) hy fun v w' bt' g hav=>next g hav (eff_keeps hy) hs')
    · rw[wantedA_sound h.gam hX hw]
      simp only[Bool.false_eq_true,if_false]
      exact next h.gam zMU (Keep.refl _ _ _) hs'
  · cases hrun
theorem Inv.land (_hL:zcC P E.lay) (h:Inv C E ops k r listed pre ((i,A) :: rest) op Pd fl s X bt a w) {b:Nat} (hb:fl i=some b) :
    ∃ op' s' X' bt',Inv C E ops k r listed (i :: pre) rest op' Pd (ztQ fl i none) s' X' bt' a w:=by
  have hf:=h.flOk i b hb
  obtain ⟨o,t,d,ti,vs,ho,hfo,hop,hd,hE,htm,hti,hheap,hz⟩:=hf.op
  have he:=zp5 hfo
  obtain ⟨_,_,_,hg,_⟩:=zp4 hfo
  obtain ⟨o3,ho3,hh⟩:=planOk_head h.plan
  rw[ho] at ho3; cases ho3
  have hin:i ∉ Pd:=fun hm=>hh.nin (h.pdPre i hm)
  have hA:∀ q∈A,Li listed q:=anc_listed h.closed (h.closed i o ho hf.li) (hh.anc he) (fun q hq=>by cases hq)
  have hrun:=h.run
  unfold runD at hrun
  rw[Array.getElem?_toList,ho] at hrun
  simp only[he] at hrun
  split at hrun
  · rename_i hsep
    obtain ⟨s',hst,hk⟩:=runOp_stp hrun
    rcases hst with ⟨hw,hwf,av,s1,hy,hs'⟩ | ⟨hw,_⟩
    · have hy':=hy
      simp only[evalOp,hop,hti,hd,Option.getD_some] at hy'
      cases hy'
      have hblt:b < w.heap.size:=by
        rcases Nat.lt_or_ge b w.heap.size with hlt | hge
        · exact hlt
        · rw[Array.getElem?_eq_none hge] at hheap; cases hheap
      have g1:=h.gam.land hb (fun j hj=>h.flInj j i b hj hb) hf.keep (zfd d) hz hheap
      have g2:=g1.set (t:=d) (a := .one (.lp (nm d) 0)) (v := .pointer (some ⟨b,0,none⟩)) (zbT (a := .lp (nm d) 0) (fun _=>⟨b,upd_same ..,rfl⟩) rfl)
      rw[htm] at g2
      rw[hd] at hs'
      refine ⟨_,s',_,_,⟨by rw[hs']; exact g2,h.kp,h.defers,fun t ht=>?_,h.size,fun j hj=>?_,fun p hp=>?_,h.unP,fun q hq=>List.mem_cons_of_mem _ (h.pdPre q hq),h.pdNodup,
        h.zwc ho he hh hA hsep (eff_keeps hy) (by rw[hd]; exact hs'),h.closed,⟨⟨o,ho,hh.preds⟩,h.preOk⟩,hh.tail,hk,fun q b' hq=>?_,fun q q' b' h1 h2=>?_⟩⟩
      · rcases h.hx t ht.1 with x | ⟨q,b',oq,h1,h2,h3⟩
        · exact .inl x
        · refine .inr ⟨q,b',oq,?_,h2,h3⟩
          have hne:q≠i:=fun e=>by
            subst e; rw[ho] at h2; cases h2; rw[hd] at h3; cases h3; exact ht.2 rfl
          rw[zbe _ _ hne]; exact h1
      · rcases h.all j hj with h1 | ⟨p,hp,rfl⟩ | h1
        · exact .inl h1
        · rcases List.mem_cons.1 hp with rfl | hp
          · exact .inl hf.li
          · exact .inr (.inl ⟨p,hp,rfl⟩)
        · exact .inr (.inr h1)
      · have hne:p.1≠i:=fun e=>zfH hh.tail p hp (by rw[e]; exact List.mem_cons_self ..)
        rw[zbe _ _ hne]
        exact h.unR p (List.mem_cons_of_mem _ hp)
      · have hne:q≠i:=fun e=>by subst e; rw[zdj] at hq; cases hq
        rw[zbe _ _ hne] at hq
        have hf':=h.flOk q b' hq
        refine ⟨hf'.keep,hf'.li,?_,hf'.op⟩
        obtain ⟨B,hB⟩:=hf'.rest
        rcases List.mem_cons.1 hB with e | hB
        · cases e; exact absurd rfl hne
        · exact ⟨B,hB⟩
      · have n1:q≠i:=fun e=>by subst e; rw[zdj] at h1; cases h1
        have n2:q'≠i:=fun e=>by subst e; rw[zdj] at h2; cases h2
        rw[zbe _ _ n1] at h1; rw[zbe _ _ n2] at h2
        exact h.flInj q q' b' h1 h2
    · simp[wantedA,hg] at hw
  · cases hrun
theorem Inv.fly (hL:zcC P E.lay) (hF:floLay E.lay ops.toList=true) (h:Inv C E ops k r listed pre rest op Pd fl s X bt a w) (ho:ops[i]? = some o) (hfo:flo o=true) (hin:∃ A,(i,A)∈rest) (hr:i∈Region.ready .any ops listed)
    (hK:∀ fl' X' a' w',Inv C E ops k r (listed.setIfInBounds i true) pre rest op Pd fl' s X' bt a' w'→K a' w'):wpOp P ops Q i K a w:=by
  obtain ⟨hu,o2,ho2,hp⟩:=mem_ready.1 hr
  rw[ho] at ho2; cases ho2
  have hnf:=h.nfl hu
  have hni:fl i=none:=by
    cases hfi:fl i with
    | none=>rfl
    | some b=>exact absurd hfi (hnf b)
  obtain ⟨t,d,hop,hg,hd⟩:=zp4 hfo
  obtain ⟨A,hA⟩:=hin
  have hE:=zoH h.plan _ hA o ho (zp5 hfo) hfo
  have hiP:i ∉ Pd:=fun hm=>zfH h.plan _ hA (h.pdPre i hm)
  obtain ⟨ti,hti⟩:∃ ti,zcm t E.lay=some ti:=by
    have key : ∀ l:List Oper,floLay E.lay l=true→o∈l→∃ ti,zcm t E.lay=some ti:=by
      intro l
      induction l with
      | nil=>intro _ hm; cases hm
      | cons p l ih =>
        intro hl hm
        unfold floLay at hl
        rcases List.mem_cons.1 hm with rfl | hm
        · rw[hop] at hl
          simp only at hl
          split at hl
          · exact ⟨_,by assumption⟩
          · cases hl
        · split at hl
          · split at hl
            · exact ih hl hm
            · cases hl
          · exact ih hl hm
    exact key _ hF (by rw[Array.mem_toList_iff]; exact Array.mem_of_getElem? ho)
  obtain ⟨inf,d',z,hi1,hu1,hs1,hag,hz,hzo,_⟩:=hL t ti hti
  unfold wpOp
  rw[ho]
  simp only
  have hw:Region.wanted o (yielded ops a.tmps)=true:=by simp[Region.wanted,hg]
  rw[hw,if_pos rfl]
  left
  refine zdX (v := .pointer (some ⟨w.heap.size,0,none⟩)) (w':=w.alloc (.cells z.cells t)) ?_ ?_
  · simp[execOp,hop,Instr.alloc,zeroValue,typeInfo,hi1,hz,newVar,newRow]
  · have g':=h.gam.fly hni (.cells z.cells t) d (.pointer (some ⟨w.heap.size,0,none⟩))
    have hbel:=zaU w (.cells z.cells t)
    have hkb:∀ x,C.keep x→x < w.heap.size:=fun x hx=>h.gam.kb x (.inl hx)
    rw[hd]
    refine hK (ztQ fl i (some w.heap.size)) (fun u=>X u∨u=d) { a with tmps:=a.tmps.setIfInBounds d (.pointer (some ⟨w.heap.size,0,none⟩)) } _ ⟨g',h.kp.trans (Kp.of hbel hkb),h.defers,fun u hx=>?_,by simp[h.size],fun j hj=>?_,fun p hp=>?_,fun q hq=>?_,h.pdPre,h.pdNodup,h.stab,zln h.closed ho hp,h.preOk,h.plan,h.run,fun q b hq=>?_,fun q q' b h1 h2=>?_⟩
    · rcases hx with hx | rfl
      · rcases h.hx u hx with x | ⟨q,b,oq,h1,h2,h3⟩
        · exact .inl x
        · refine .inr ⟨q,b,oq,?_,h2,h3⟩
          have hne:q≠i:=fun e=>hnf b (by rw[← e]; exact h1)
          rw[zbe _ _ hne]; exact h1
      · exact .inr ⟨i,_,o,zdj ..,ho,hd⟩
    · rcases h.all j hj with h1 | h1 | h1
      · exact .inl (zmf h1)
      · exact .inr (.inl h1)
      · exact .inr (.inr h1)
    · by_cases e:p.1=i
      · rw[e]; exact .inr ⟨_,zdj ..⟩
      · rw[zbe _ _ e]
        exact (h.unR p hp).imp (fun hx=>zox hx (Ne.symm e)) id
    · exact zox (h.unP q hq) fun e=>hiP (e▸hq)
    · by_cases e:q=i
      · subst e
        rw[zdj] at hq; cases hq
        refine ⟨fun hk=>Nat.lt_irrefl _ (hkb _ hk),zu9 (by rw[h.size]; exact (Array.getElem?_eq_some_iff.1 ho).1),⟨A,hA⟩,o,t,d,ti,z.cells,ho,hfo,hop,hd,hE,?_,hti,heap_alloc w _,fun x=>zmb hzo⟩
        show (a.tmps.setIfInBounds d _).setIfInBounds d _=_
        simp
      · rw[zbe _ _ e] at hq
        have:=znL (rest':=rest) (v := .pointer (some ⟨w.heap.size,0,none⟩)) (w':=w.alloc (.cells z.cells t)) (l':=listed.setIfInBounds i true) (a:=a) (h.flOk q b hq) (hbel.block b (h.gam.kb b (.inr ⟨q,hq⟩))) ho e zmf id
        rw[hd] at this
        exact this
    · by_cases e1:q=i<;>by_cases e2:q'=i
      · rw[e1,e2]
      · subst e1
        rw[zdj] at h1; cases h1
        rw[zbe _ _ e2] at h2
        have:=h.gam.kb _ (.inr ⟨q',h2⟩); omega
      · subst e2
        rw[zdj] at h2; cases h2
        rw[zbe _ _ e1] at h1
        have:=h.gam.kb _ (.inr ⟨q,h1⟩); omega
      · rw[zbe _ _ e1] at h1; rw[zbe _ _ e2] at h2
        exact h.flInj q q' b h1 h2
def unl (l:Array Bool):Nat:=l.toList.countP fun b=>!b
theorem ztU {l:Array Bool} (h:Un l i):unl (l.setIfInBounds i true)+1=unl l:=by
  have hlt:=zPX h
  unfold Un at h
  simp[Array.getD,hlt] at h
  unfold unl
  rw[Array.toList_setIfInBounds]
  have hlt':i < l.toList.length:=by simpa using hlt
  have hget:l.toList[i]'hlt'=false:=by simpa using h
  have hpos:0 < l.toList.countP fun b=>!b:=List.countP_pos_iff.2 ⟨false,by rw[← hget]; exact List.getElem_mem hlt',rfl⟩
  have:=List.countP_set (p:=fun b=>!b) (a:=true) hlt'
  rw[hget] at this
  simp only[Bool.not_false,Bool.not_true,if_true,Bool.false_eq_true,if_false,Nat.add_zero] at this
  omega
theorem any_sound (hL : zcC P E.lay) (hC:zaj P C.fix E.cons) (hF:floLay E.lay ops.toList=true) (hK:zOT C k r (fun a w=>Q .normal a w)):∀ (fuel:Nat) (rest:List (Nat × List Nat)) {listed:Array Bool} {pre:List Nat} {op:List (Nat × List Nat)} {Pd:List Nat} {fl:Nat→Option Nat} {s:St} {X:Nat→Prop} {bt:Nat→Option Value} {a:Act} {w:World},
    Inv C E ops k r listed pre rest op Pd fl s X bt a w→unl listed≤fuel→wpAny P .any ops Q fuel listed a w:=by
  intro fuel
  induction fuel with
  | zero =>
    intro rest
    induction rest with
    | nil =>
      intro listed pre op Pd fl s X bt a w h hf
      have none_un:∀ j,¬ Un listed j:=fun j hu=>by have:=ztU hu; omega
      refine ⟨?_,hK s bt a w ((h.gam.zrm (fun i=>?_) h.kp).weaken fun t ht=>?_) h.defers h.run⟩
      · cases hr:Region.ready .any ops listed with
        | nil=>rfl
        | cons j l =>
          have hj:j∈Region.ready .any ops listed:=by rw[hr]; exact List.mem_cons_self ..
          exact absurd (mem_ready.1 hj).1 (none_un j)
      · cases hi:fl i with
        | none=>rfl
        | some b=>obtain ⟨A,hA⟩:=(h.flOk i b hi).rest; cases hA
      · rcases h.hx t ht with ⟨q,hq,_⟩ | ⟨q,b,_,hq,_⟩
        · exact absurd (h.unP q hq) (none_un q)
        · obtain ⟨A,hA⟩:=(h.flOk q b hq).rest; cases hA
    | cons p rest ihr =>
      intro listed pre op Pd fl s X bt a w h hf
      have none_un:∀ j,¬ Un listed j:=fun j hu=>by have:=ztU hu; omega
      obtain ⟨i,A⟩:=p
      rcases h.unR (i,A) (List.mem_cons_self ..) with hu | ⟨b,hb⟩
      · exact absurd hu (none_un i)
      · obtain ⟨op',s',X',bt',h'⟩:=h.land hL hb
        exact ihr h' hf
  | succ fuel ih =>
    intro rest
    have core : ∀ {rest:List (Nat × List Nat)} {listed:Array Bool} {pre:List Nat} {op:List (Nat × List Nat)} {Pd:List Nat} {fl:Nat→Option Nat} {s:St} {X:Nat→Prop} {bt:Nat→Option Value} {a:Act} {w:World},
        Inv C E ops k r listed pre rest op Pd fl s X bt a w→unl listed≤fuel+1→(∀ i A l,rest=(i,A) :: l→fl i=none∧∃ o,ops[i]? = some o∧early o=false)→wpAny P .any ops Q (fuel+1) listed a w:=by
      intro rest listed pre op Pd fl s X bt a w h hf hlate
      refine ⟨fun hr=>?_,fun i hi=>?_⟩
      · have hpre:=zmZ h.size hr h.preOk
        have hPd:Pd=[]:=by
          cases hPd:Pd with
          | nil=>rfl
          | cons q l =>
            have hq:q∈Pd:=by rw[hPd]; exact List.mem_cons_self ..
            exact absurd (hpre q (h.pdPre q hq)) (zho (h.unP q hq))
        have hrest:rest=[]:=by
          cases hrest:rest with
          | nil=>rfl
          | cons p l =>
            obtain ⟨i,A⟩:=p
            subst hrest
            obtain ⟨hfi,_⟩:=hlate i A l rfl
            obtain ⟨o,ho,hh⟩:=planOk_head h.plan
            have hun:Un listed i:=(h.unR (i,A) (List.mem_cons_self ..)).resolve_right fun ⟨b,hb⟩=>by rw[hfi] at hb; cases hb
            have:i∈Region.ready .any ops listed:=mem_ready.2 ⟨hun,o,ho,fun e he hb=>hpre _ (hh.preds e he hb)⟩
            rw[hr] at this; cases this
        subst hrest
        refine hK s bt a w ((h.gam.zrm (fun i=>?_) h.kp).weaken fun t ht=>?_) h.defers h.run
        · cases hi:fl i with
          | none=>rfl
          | some b=>obtain ⟨A,hA⟩:=(h.flOk i b hi).rest; cases hA
        · rcases h.hx t ht with ⟨q,hq,_⟩ | ⟨q,b,_,hq,_⟩
          · rw[hPd] at hq; cases hq
          · obtain ⟨A,hA⟩:=(h.flOk q b hq).rest; cases hA
      · obtain ⟨hu, o, ho,hp⟩:=mem_ready.1 hi
        have hset:=ztU hu
        by_cases hin:i∈Pd
        · exact h.pend hL hC hin hi fun X' bt' a' w' h'=>ih _ h' (by omega)
        · rcases h.all i (Array.getElem?_eq_some_iff.1 ho).1 with h1 | ⟨p,hpm,rfl⟩ | h1
          · exact absurd h1 (zho hu)
          · cases hrest:rest with
            | nil=>rw[hrest] at hpm; cases hpm
            | cons p0 l =>
              obtain ⟨j,A⟩:=p0
              subst hrest
              obtain ⟨hfj,oj,hoj,hel⟩:=hlate j A l rfl
              obtain ⟨oj2,hoj2,hh⟩:=planOk_head h.plan
              rw[hoj] at hoj2; cases hoj2
              rcases List.mem_cons.1 hpm with rfl | h1
              · exact h.late hL hC hoj hel hi fun op' s' X' bt' a' w' h'=>ih _ h' (by omega)
              · by_cases hfo:flo o=true
                · exact h.fly hL hF ho hfo ⟨p.2,hpm⟩ hi fun fl' X' a' w' h'=>ih _ h' (by omega)
                · exfalso
                  obtain ⟨o',ho',hx⟩:=hh.forced hel p h1
                  rw[ho] at ho'; cases ho'
                  rcases hx with hx | ⟨e,he,hb,hon⟩
                  · exact hfo hx
                  have hl:=hp e he hb
                  rcases hon with h2 | ⟨q,hq,h2,oq,hoq,hnq⟩
                  · rw[h2] at hl
                    rcases h.unR (j,A) (List.mem_cons_self ..) with h3 | ⟨b,h3⟩
                    · exact zho h3 hl
                    · rw[hfj] at h3; cases h3
                  · rw [h2] at hl
                    rcases h.unR q (List.mem_cons_of_mem _ hq) with h3 | ⟨b,h3⟩
                    · exact zho h3 hl
                    · obtain ⟨o3,t3,d3,i3,vs3,e1,e2,_⟩:=(h.flOk q.1 b h3).op
                      rw[hoq] at e1; cases e1
                      rw[hnq] at e2; cases e2
          · exact absurd h1 hin
    induction rest with
    | nil=>intro listed pre op Pd fl s X bt a w h hf; exact core h hf fun i A l e=>by cases e
    | cons p rest ihr =>
      intro listed pre op Pd fl s X bt a w h hf
      obtain ⟨i,A⟩:=p
      cases hfi:fl i with
      | some b =>
        obtain ⟨op',s',X',bt',h'⟩:=h.land hL hfi
        exact ihr h' hf
      | none =>
        obtain ⟨o,ho,hh⟩:=planOk_head h.plan
        cases he:early o with
        | true =>
          obtain ⟨op',s',X',h'⟩:=h.ahead ho he
          exact ihr h' hf
        | false =>
          refine core h hf fun j B l e=>?_
          cases e; exact ⟨hfi,o,ho,he⟩
theorem zoG:∀ {rest:List (Nat × List Nat)} {pre:List Nat},planOk ops pre rest=true→∀ p∈rest,p.1 < ops.size
  | (i,A) :: rest,pre,h,p,hp=>by
    obtain ⟨o,ho,hh⟩:=planOk_head h
    rcases List.mem_cons.1 hp with rfl | hp
    · exact (Array.getElem?_eq_some_iff.1 ho).1
    · exact zoG hh.tail p hp
theorem zNU {n j:Nat}:¬ Li (Array.replicate n false) j:=by
  unfold Li
  rcases Nat.lt_or_ge j n with h | h
  · simp[Array.getD,h]
  · simp[Array.getD,Nat.not_lt.2 h]
theorem zNw {n j:Nat} (h:j < n):Un (Array.replicate n false) j:=by
  unfold Un; simp[Array.getD,h]
theorem zzI (hL:zcC P E.lay) (hC:zaj P C.fix E.cons) (hm:P.follows .mixedOrders=true) {plan:List (Nat × List Nat)} (hp:zmN ops plan=true) (g:Gam C s NoX bt a.tmps w) (hd:a.defers=[])
    (h:runD E ops.toList plan [] s k=some r) (hF:floLay E.lay ops.toList=true) (hK:zOT C k r (fun a w=>Q .normal a w)) (id:Nat):(Code.region id ops true).wp P Q a w:=by
  unfold zmN at hp
  simp only[Bool.and_eq_true] at hp
  obtain ⟨h1,h2,h3⟩:=hp
  have hinv:Inv C E ops k r (Array.replicate ops.size false) [] plan [] [] (fun _=>none) s NoX bt a { w with drawn:=w.drawn+1 }:=by
    have g1:=g.grown (w':={ w with drawn:=w.drawn+1 }) ⟨rfl,rfl,rfl,Nat.le_refl _,fun _ _=>rfl⟩
    refine ⟨g1.zB7,g1.below,hd,fun t ht=>ht.elim,by simp,fun j hj=>?_,fun p hp => .inl (zNw (zoG h1 p hp)),fun q hq=>?_,fun q hq=>?_,List.nodup_nil,fun q hq=>?_,fun j o ho hl=>absurd hl zNU,trivial,h1,h,fun q b hq=>(by cases hq),fun q q' b hq=>(by cases hq)⟩
    · obtain ⟨p,hp,he⟩:=List.any_eq_true.1 (List.all_eq_true.1 h3 j (List.mem_range.2 hj))
      exact .inr (.inl ⟨p,hp,(Nat.eq_of_beq_eq_true he).symm⟩)
    · cases hq
    · cases hq
    · cases hq
  exact wp_region_any hm (any_sound hL hC hF hK ops.size plan hinv (by
    have:unl (Array.replicate ops.size false)≤(Array.replicate ops.size false).toList.length:=List.countP_le_length
    simpa using this))
end
end Go.Di
open Go.RowKit (Below)
namespace Go.Di
section
variable {P:Program} {C:Bs} {w w':World} {s s':St} {X:Nat→Prop} {β':Nat→Option Value} {a:Act} {o:Oper} {tm:Array Value} {β:Type} {bt:Nat→Option Value}
  {K:Act→World→Prop} {Q:Exit→Act→World→Prop} {E:Env} {k:St→Option β} {r:β}
/-! ### Texts -/
def zv9:Ex→Exit
  | .normal => .normal
  | .exit i => .exit i
  | .ret => .ret
def zQ3 (C:Bs) (k:Ex→St→Option β) (r:β) (Q:Exit→Act→World→Prop):Prop:=∀ e s bt a w,Gam C s NoX bt a.tmps w→a.defers=[]→k e s=some r→Q (zv9 e) a w
def zay (P:Program) (F:Nat→Option (Array Value→Prop)) (m:LM) (body:Code):Prop:=∀ (C:Bs) (s:St) (bt:Nat→Option Value) (a:Act) (w:World) (y:m.ρ),C.fix=F→Gam C s NoX bt a.tmps w→a.defers=[]→m.run s=some y →
  ∀ Q:Exit→Act→World→Prop,(∀ bt a w,Gam C (m.out y).2 NoX bt a.tmps w→a.defers=[]→Q (zv9 (m.out y).1) a w)→(Code.loop body).wp P Q a w
def zad:Code→List Code
  | .seq a b=>zad a++zad b
  | .cond _ a b=>zad a++zad b
  | .block _ a=>zad a
  | .loop a=>[a]
  | _=>[]
theorem zOS {a b:Bool} (h:(a && b)=true):a=true:=by cases a<;>simp_all
theorem zOR {a b:Bool} (h:(a && b)=true):b=true:=by cases a<;>simp_all
def zfW (plans:List (Nat × List (Nat × List Nat))):Code→Bool
  | .region id ops true=>match ziZ id plans with
    | some p=>zmN ops p
    | none=>true
  | .seq a b=>zfW plans a && zfW plans b
  | .cond _ a b=>zfW plans a && zfW plans b
  | .block _ a=>zfW plans a
  | .loop a=>zfW plans a
  | _=>true
theorem zdm (hm:P.follows .mixedOrders=true) (hL:zcC P E.lay) (hC:zaj P C.fix E.cons):∀ (c:Code) {s:St} {bt:Nat→Option Value} {a:Act} {w:World} {k:Ex→St→Option β} {Q:Exit→Act→World→Prop},
    zfW E.plans c=true→(∀ body∈zad c,∀ m,zif (keyOf body) E.loops=some m→zay P C.fix m body)→Gam C s NoX bt a.tmps w→a.defers=[]→evalC E c s k=some r→zQ3 C k r Q→c.wp P Q a w
  | .skip,s,bt,a,w,k,Q,hD,_,g,hd,h,hK=>wp_skip (hK .normal s bt a w g hd h)
  | .region id ops false,s,bt,a,w,k,Q,hD,_,g,hd,h,hK =>
    wp_region_list (zmd hL hC ops.toList g hd h fun s' bt' a' w' g' hd' h'=>hK .normal s' bt' a' w' g' hd' h')
  | .region id ops true,s,bt,a,w,k,Q,hD,_,g,hd,h,hK=>by
    have h':(match ziZ id E.plans,floLay E.lay ops.toList with
      | some p,true=>runD E ops.toList p [] s fun s=>k .normal s
      | _,_=>none)=some r:=h
    have hD':(match ziZ id E.plans with
      | some p=>zmN ops p
      | none=>true)=true:=hD
    cases hp:ziZ id E.plans with
    | none=>rw[hp] at h'; cases h'
    | some p =>
      rw[hp] at h' hD'
      cases hF:floLay E.lay ops.toList with
      | false=>rw[hF] at h'; cases h'
      | true =>
      rw[hF] at h'
      exact zzI hL hC hm hD' g hd h' hF (fun s' bt' a' w' g' hd' h'=>hK .normal s' bt' a' w' g' hd' h') id
  | .seq x y,s,bt,a,w,k,Q,hD,hl,g,hd,h,hK=>by
    refine wp_seq (zdm hm hL hC x (zOS hD) (fun b hb=>hl b (List.mem_append_left _ hb)) g hd h fun e s' bt' a' w' g' hd' h'=>?_)
    cases e with
    | normal=>exact zdm hm hL hC y (zOR hD) (fun b hb=>hl b (List.mem_append_right _ hb)) g' hd' h' hK
    | exit i=>exact hK (.exit i) s' bt' a' w' g' hd' h'
    | ret=>exact hK .ret s' bt' a' w' g' hd' h'
  | .cond (.tmp t) x y,s,bt,a,w,k,Q,hD,hl,g,hd,h,hK=>by
    obtain ⟨c,s1,hget,g1,hk⟩:=zj5 g h
    have hv:a.eval (.tmp t) = .bool c:=by
      have hlt:=(Array.getElem?_eq_some_iff.1 hget).1
      have:=(Array.getElem?_eq_some_iff.1 hget).2
      simp[Act.eval,Array.getD,hlt,this]
    refine wp_cond hv ?_
    cases c with
    | true=>exact zdm hm hL hC x (zOS hD) (fun b hb=>hl b (List.mem_append_left _ hb)) g1 hd hk hK
    | false=>exact zdm hm hL hC y (zOR hD) (fun b hb=>hl b (List.mem_append_right _ hb)) g1 hd hk hK
  | .cond (.const v) x y,s,bt,a,w,k,Q,hD,hl,g,hd,h,hK=>by cases h
  | .cond (.global v) x y,s,bt,a,w,k,Q,hD,hl,g,hd,h,hK=>by cases h
  | .cond (.func v) x y,s,bt,a,w,k,Q,hD,hl,g,hd,h,hK=>by cases h
  | .block id x,s,bt,a,w,k,Q,hD,hl,g,hd,h,hK=>by
    refine wp_block (zdm hm hL hC x hD hl g hd h fun e s' bt' a' w' g' hd' h'=>?_)
    cases e with
    | normal=>exact hK .normal s' bt' a' w' g' hd' h'
    | exit i =>
      cases hb:Nat.beq i id with
      | true =>
        simp only[hb] at h'
        have:i=id:=by simpa using hb
        simp only[zv9,Exit.inBlock,this,if_true]
        exact hK .normal s' bt' a' w' g' hd' h'
      | false =>
        simp only[hb] at h'
        have:i≠id:=by intro e; subst e; simp at hb
        simp only[zv9,Exit.inBlock,this,if_false]
        exact hK (.exit i) s' bt' a' w' g' hd' h'
    | ret=>exact hK .ret s' bt' a' w' g' hd' h'
  | .loop x,s,bt,a,w,k,Q,hD,hl,g,hd,h,hK=>by
    have h':(match zif (keyOf x) E.loops with
      | some m=>(m.run s).bind fun r=>m.elim r k
      | none=>none)=some r:=h
    cases hm:zif (keyOf x) E.loops with
    | none=>rw[hm] at h'; cases h'
    | some m =>
      rw[hm] at h'
      cases hr:m.run s with
      | none=>simp[hr] at h'
      | some y =>
        simp[hr,m.elim_eq] at h'
        exact hl x (by simp[zad]) m hm C s bt a w y rfl g hd hr Q fun bt' a' w' g' hd'=>hK _ _ bt' a' w' g' hd' h'
  | .exit i,s,bt,a,w,k,Q,hD,_,g,hd,h,hK=>wp_exit (hK (.exit i) s bt a w g hd h)
  | .ret,s,bt,a,w,k,Q,hD,_,g,hd,h,hK=>wp_ret (hK .ret s bt a w g hd h)
  | .rangeFunc ..,s,bt,a,w,k,Q,hD,_,g,hd,h,hK=>by cases h
  | .scope ..,s,bt,a,w,k,Q,hD,_,g,hd,h,hK=>by cases h
  | .label ..,s,bt,a,w,k,Q,hD,_,g,hd,h,hK=>by cases h
  | .goto ..,s,bt,a,w,k,Q,hD,_,g,hd,h,hK=>by cases h
  | .refuse ..,s,bt,a,w,k,Q,hD,_,g,hd,h,hK=>by cases h
end
end Go.Di
open Go.RowKit (Below)
namespace Go.Di
section
variable {P:Program} {C:Bs} {w w':World} {s s':St} {X:Nat→Prop} {bt:Nat→Option Value} {tm:Array Value}
def CellIs (g:Bool) (v:Value) (j:Nat) (u:Value):Prop:=match g with
  | true=>∃ vs,v = .agg vs∧vs[j]? = some u
  | false=>j=0∧v=u
theorem zck.zwh {x:Cx} {a:A1}:∀ {l:List A1} {vs:List Value} {j:Nat} {u:Value},zck x l vs→vs[j]? = some u→A1Ok x a u→u.oneCell'=true→zck x (zwh j a l) vs
  | [],[],j,u,_,h,_,_=>by simp at h
  | b :: l,v :: vs,0,u,⟨_,_,h3⟩,h,ha,h1=>by simp at h; subst h; exact ⟨ha,h1,h3⟩
  | b :: l,v :: vs,j+1,u,⟨k1,k2,h3⟩,h,ha,h1=>⟨k1,k2,h3.zwh (by simpa using h) ha h1⟩
  | [],_ :: _,_,_,h,_,_,_=>h.elim
  | _ :: _,[],_,_,h,_,_,_=>h.elim
theorem zEO {x:Cx} {g:Bool} {l:List A1} {v:Value} {j:Nat} {b:A1} (h:zaR x (.v g l) v) (hj:l[j]? = some b) (hb:b ≠ .bot):∃ u,CellIs g v j u∧A1Ok x b u∧u.oneCell'=true:=by
  cases g with
  | true =>
    obtain ⟨vs,rfl,h2⟩:=h
    obtain ⟨u,h3,h4,h5⟩:=h2.get hj
    exact ⟨u,⟨vs,rfl,by simpa using h3⟩,h4,h5⟩
  | false =>
    obtain ⟨a,rfl,h2,h3⟩:=h
    cases j with
    | zero =>
      simp at hj; subst hj
      exact ⟨v,⟨rfl,rfl⟩,h2,h3.resolve_left hb⟩
    | succ j=>simp at hj
theorem zvI {x:Cx} {g:Bool} {l:List A1} {v:Value} {j:Nat} {a:A1} {u:Value} (h:zaR x (.v g l) v) (hc:CellIs g v j u) (ha:A1Ok x a u) (h1:u.oneCell'=true) (hl:j < l.length):zaR x (.v g (zwh j a l)) v:=by
  cases g with
  | true =>
    obtain ⟨vs,rfl,h2⟩:=h
    obtain ⟨vs',e,h3⟩:=hc
    cases e
    exact ⟨vs,rfl,h2.zwh (by simpa using h3) ha h1⟩
  | false =>
    obtain ⟨b,rfl,h2,h3⟩:=h
    obtain ⟨rfl,rfl⟩:=hc
    exact ⟨a,rfl,ha,.inr h1⟩
theorem Gam.zP5 (g:Gam C s NoX bt tm w) {t:Nat} {a:AV} (ha:zaR (cx C s bt w) a (tm.getD t undef)):Gam C (s.set t a) NoX bt tm w:=by
  have:=g.zpI (t:=t) ha
  rwa [zwg rfl] at this
theorem zgj (n:Nat):∀ l:List A1,(zdF n l).length=l.length
  | []=>rfl
  | _ :: r=>by simp[zdF,zgj n r]
theorem zp8 {n:Nat} {e:Ent} {t:Nat} {g:Bool} {l:List A1} (h:s.env[t]? = some (.v g l)):(s.push n e).env[t]? = some (.v g (zdF n l)):=by
  show (zpT n s.env)[t]? = _
  rw[zeh,h]; rfl
theorem Gam.adoptS (g:Gam C s NoX bt tm w) (t j n:Nat) (hn:n % 64≠63) (u:ST):∃ bt',Gam C (Go.Di.adoptS t j n u s) NoX bt' tm w:=by
  unfold Go.Di.adoptS
  split
  · rename_i gg l hs
    split
    · rename_i hj
      have hne:(AV.v gg l)≠AV.bot:=by
        intro e
        cases e
        cases j<;>simp at hj
      have hs':=get_some hs hne
      obtain ⟨v0,k1,⟨ad,rfl⟩,k3⟩:=zEO (g.env t _ (fun h=>h) hs') hj (by intro e; cases e)
      have g1:Gam C (s.push n (.arr false u [])) NoX (upd bt n (.slice ad 0 0)) tm w :=
        g.zhk (Below.refl _ _) (hnm:=hn) (fun b hb=>by cases ad<;>simp[zaq] at hb) fun _ => .inl ⟨rfl,ad,rfl⟩
      exact ⟨_,g1.zP5 (zvI (g1.env t _ (fun h=>h) (zp8 hs')) k1 (fun _ _ _ _=>upd_same bt n _) k3 (by rw[zgj]; exact (List.getElem?_eq_some_iff.1 hj).1))⟩
    · rename_i m k hj
      split
      · rename_i ww xs hm hl
        have hm:m % 64≠63:=by intro e; rw[e] at hm; cases hm
        have hne:(AV.v gg l)≠AV.bot:=by
          intro e
          cases e
          cases j<;>simp at hj
        have hs':=get_some hs hne
        obtain ⟨v0,k1,k2,k3⟩:=zEO (g.env t _ (fun h=>h) hs') hj (by intro e; cases e)
        obtain ⟨q1,a0,m0,cap,q2,q3,rfl⟩:=k2 false ww xs hl
        have hk:k≤xs.length:=by omega
        have hv:(if cap=0 then a0 else a0.map (·.add (0 * ww.size)))=a0:=by
          split
          · rfl
          · cases a0 with
            | none=>rfl
            | some a0=>simp[Addr.add]
        rw[hv] at k1 k3
        have q2':bt m=some (.slice a0 m0 cap):=q2
        have htop:zaq (.slice a0 k (cap - 0))=zaq (.slice a0 m0 cap):=by
          cases a0<;>cases cap<;>rfl
        have hfr:St.za1 [m] s=s.free m:=rfl
        have g1 : Gam C (s.push m (.arr false ww (xs.take k))) NoX (upd bt m (.slice a0 k (cap - 0))) tm w:=by
          refine Gam.call g (K:=[m]) (l:=[(m,.arr false ww (xs.take k))]) (by simp[names]) (fun n e' h=>?_) (fun n fr t ys h _=>by simp at h) (fun q hq=>?_) (fun _ _ _=>rfl) (fun _ _ _ _ _ _ _ _ _ _=>rfl) (Nat.le_refl _) (Kp.refl _ _)
            (fun n e v b h1 h2 h3 h4=>?_) (fun n n' e f v u b h1 h2 h3 h4 h5 h6 h7 h8=>?_) (fun n h1 _=>?_) (fun n h1=>?_) fun hle n e v h1 h2=>?_
          · simp at h; exact .inl (by simp[h.1])
          · have:q≠m:=by
              rcases hq with hq | hq
              · simpa [names] using hq
              · simpa using hq
            exact zax _ _ this
          · simp at h1; obtain ⟨rfl,rfl⟩:=h1
            rw[upd_same] at h2; cases h2
            rw[htop] at h4
            have hT:Top (fun n=>look n s.ents) bt b:=⟨n,_,_,hl,rfl,q2',h4⟩
            exact ⟨(g.fresh b hT).2,.inr ⟨hT,fun m' e0 u k1 k2 k3 k4 => .inl (by
              have:=g.uniq n m' _ _ _ _ b hl k1 rfl k2 q2' k3 h4 k4
              simp[this])⟩⟩
          · simp at h1 h2; rw[h1.1,h2.1]
          · simp[names] at h1; subst h1; exact hm
          · simp[names] at h1; subst h1; rw[upd_same]; rfl
          · simp at h1; obtain ⟨rfl,rfl⟩:=h1
            rw[upd_same] at h2; cases h2
            have hlt:(xs.take k).length=k:=by rw[List.length_take]; omega
            rcases g.ents n _ _ hl q2' with ⟨h0,ad,h1⟩ | ⟨g',cap',cur,T,h1,h2,h3,h4,h5,h6,h7⟩
            · subst h0
              cases h1
              simp at hk; subst hk
              exact .inl ⟨rfl,_,rfl⟩
            · cases h1
              refine .inr ⟨g',cap,cur,T,by rw[hlt]; rfl,h2,by omega,h4,h5,h6,fun i c hc=>?_⟩
              have hc':(flat ww xs)[i]? = some c:=by
                have hsplit:flat ww xs=flat ww (xs.take k)++flat ww (xs.drop k):=by
                  simp only[flat,← List.flatMap_append,List.take_append_drop]
                rw[hsplit,List.getElem?_append_left (List.getElem?_eq_some_iff.1 hc).1]; exact hc
              obtain ⟨u,e1,e2⟩:=h7 i c hc'
              exact ⟨u,e1,hle.rd e2⟩
        exact ⟨_,g1.zP5 (zvI (g1.env t _ (fun h=>h) (zp8 hs')) k1 (fun _ _ _ _=>upd_same bt m _) k3 (by rw[zgj]; exact (List.getElem?_eq_some_iff.1 hj).1))⟩
      · exact ⟨bt,g⟩
    · exact ⟨bt,g⟩
  · exact ⟨bt,g⟩
theorem Gam.adoptB (g:Gam C s NoX bt tm w) (b j n:Nat) (hn:n % 64≠63) (u:ST):∃ bt',Gam C (Go.Di.adoptB b j n u s) NoX bt' tm w:=by
  unfold Go.Di.adoptB
  split
  · rename_i l hl
    split
    · rename_i hj
      split
      · exact ⟨bt,g⟩
      · rename_i hb
        have hb:b≠n:=by intro e; subst e; simp at hb
        have hbs:=g.bs b _ hl
        cases hv:bt b with
        | none=>rw[hv] at hbs; cases hbs
        | some v =>
          obtain ⟨b0,vs,T,e1,e2,e3⟩:=g.ents b _ v hl hv
          obtain ⟨v0,k1,⟨ad,rfl⟩,k3⟩:=e3.get hj
          have g1:Gam C (s.push n (.arr false u [])) NoX (upd bt n (.slice ad 0 0)) tm w :=
            g.zhk (Below.refl _ _) (hnm:=hn) (fun b hb=>by cases ad<;>simp[zaq] at hb) fun _ => .inl ⟨rfl,ad,rfl⟩
          have hl1:look b (s.push n (.arr false u [])).ents=some (.box (zdF n l)):=by
            show look b (put n (.arr false u []) (s.free n).ents)=_
            rw[za6,if_neg hb,za4,if_neg hb,hl]; rfl
          have hv1:upd bt n (.slice ad 0 0) b=some v:=by rw[zax _ _ hb]; exact hv
          obtain ⟨b1,vs1,T1,f1,f2,f3⟩:=g1.ents b _ v hl1 hv1
          rw[e1] at f1; cases f1
          have f2':w.heap[b0]? = some (.cells vs1 T1 (0,0)):=f2
          have e2':w.heap[b0]? = some (.cells vs T (0,0)):=e2
          rw[e2'] at f2'; cases f2'
          refine ⟨_,g1.write hl1 (.inl ⟨_,_,rfl,rfl⟩) hv1 (fun _ _=>rfl) rfl (Kp.refl _ _) fun hle=>⟨b0,vs,T,e1,e2,?_⟩⟩
          have hset:zck (cx C (s.push n (.arr false u [])) (upd bt n (.slice ad 0 0)) w) (zwh j (.own n) (zdF n l)) vs.toList:=f3.zwh k1 (fun _ _ _ _=>upd_same bt n _) k3
          exact hset.conv fun a _ v ha=>hle.a1 (by cases a<;>first | trivial | exact ⟨trivial,trivial⟩) ha
    · exact ⟨bt,g⟩
  · exact ⟨bt,g⟩
theorem Gam.zBX (g:Gam C s NoX bt tm w) {n:Nat} (hn:n % 64≠63) {u:ST} (hu:u.znX=true) (ad:Option Addr):Gam C (s.push n (.deep false u [])) NoX (upd bt n (.tuple ((Value.slice ad 0 0 :: []):List Value).toArray)) tm w:=by
  have ht:([Value.slice ad 0 0]:List Value).flatMap zaE=[]:=by cases ad<;>rfl
  exact g.zhl (K:=[]) hn (fun k hk=>by cases hk) (fun _ _ _=>rfl) (Nat.le_refl _) (Kp.refl _ _) (fun b hb=>by
    have hb:b∈([Value.slice ad 0 0]:List Value).flatMap zaE:=hb
    rw[ht] at hb; cases hb) fun y _=>⟨_,[],rfl,by simp,by rw[ht]; exact .nil,hu,.inl ⟨rfl,ad,rfl⟩⟩
theorem Gam.adoptSD (g:Gam C s NoX bt tm w) (t j n:Nat) (hn:n % 64≠63) (u:ST) (hu:u.znX=true):∃ bt',Gam C (Go.Di.adoptSD t j n u s) NoX bt' tm w:=by
  unfold Go.Di.adoptSD
  split
  · rename_i gg l hs
    split
    · rename_i hj
      have hne:(AV.v gg l)≠AV.bot:=by
        intro e
        cases e
        cases j<;>simp at hj
      have hs':=get_some hs hne
      obtain ⟨v0,k1,⟨ad,rfl⟩,k3⟩:=zEO (g.env t _ (fun h=>h) hs') hj (by intro e; cases e)
      have g1:=g.zBX hn hu ad
      exact ⟨_,g1.zP5 (zvI (g1.env t _ (fun h=>h) (zp8 hs')) k1 (a := .dp n) (fun _=>⟨_,upd_same bt n _,rfl⟩) k3 (by rw[zgj]; exact (List.getElem?_eq_some_iff.1 hj).1))⟩
    · exact ⟨bt,g⟩
  · exact ⟨bt,g⟩
theorem Gam.adoptBD (g:Gam C s NoX bt tm w) (b j n:Nat) (hn:n % 64≠63) (u:ST) (hu:u.znX=true):∃ bt',Gam C (Go.Di.adoptBD b j n u s) NoX bt' tm w:=by
  unfold Go.Di.adoptBD
  split
  · rename_i l hl
    split
    · rename_i hj
      split
      · exact ⟨bt,g⟩
      · rename_i hb
        have hb:b≠n:=by intro e; subst e; simp at hb
        have hbs:=g.bs b _ hl
        cases hv:bt b with
        | none=>rw[hv] at hbs; cases hbs
        | some v =>
          obtain ⟨b0,vs,T,e1,e2,e3⟩:=g.ents b _ v hl hv
          obtain ⟨v0,k1,⟨ad,rfl⟩,k3⟩:=e3.get hj
          have g1:=g.zBX hn hu ad
          have hl1:look b (s.push n (.deep false u [])).ents=some (.box (zdF n l)):=by
            show look b (put n (.deep false u []) (s.free n).ents)=_
            rw[za6,if_neg hb,za4,if_neg hb,hl]; rfl
          have hv1:upd bt n (.tuple ((Value.slice ad 0 0 :: []):List Value).toArray) b=some v:=by rw[zax _ _ hb]; exact hv
          obtain ⟨b1,vs1,T1,f1,f2,f3⟩:=g1.ents b _ v hl1 hv1
          rw[e1] at f1; cases f1
          have f2':w.heap[b0]? = some (.cells vs1 T1 (0,0)):=f2
          have e2':w.heap[b0]? = some (.cells vs T (0,0)):=e2
          rw[e2'] at f2'; cases f2'
          refine ⟨_,g1.write hl1 (.inl ⟨_,_,rfl,rfl⟩) hv1 (fun _ _=>rfl) rfl (Kp.refl _ _) fun hle=>⟨b0,vs,T,e1,e2,?_⟩⟩
          have hset:zck (cx C (s.push n (.deep false u [])) (upd bt n (.tuple ((Value.slice ad 0 0 :: []):List Value).toArray)) w) (zwh j (.dp n) (zdF n l)) vs.toList:=f3.zwh k1 (a := .dp n) (fun _=>⟨_,upd_same bt n _,rfl⟩) k3
          exact hset.conv fun a _ v ha=>hle.a1 (by cases a<;>first | trivial | exact ⟨trivial,trivial⟩) ha
    · exact ⟨bt,g⟩
  · exact ⟨bt,g⟩
theorem Gam.adopt1 (g:Gam C s NoX bt tm w) (p:Pos) (n:Nat) (u:ST):∃ bt',Gam C (Go.Di.adopt1 p n u s) NoX bt' tm w:=by
  unfold Go.Di.adopt1
  split
  · exact ⟨bt,g⟩
  · rename_i hn
    have hn:n % 64≠63:=by intro e; rw[e] at hn; cases hn
    split
    · exact g.adoptS _ _ n hn u
    · exact g.adoptB _ _ n hn u
    · split
      · rename_i hu; exact g.adoptSD _ _ n hn u hu
      · exact ⟨bt,g⟩
    · split
      · rename_i hu; exact g.adoptBD _ _ n hn u hu
      · exact ⟨bt,g⟩
theorem Gam.zj9:∀ {l:List (Pos × Nat × ST)} {s:St} {bt:Nat→Option Value},Gam C s NoX bt tm w→∃ bt',Gam C (Go.Di.zj9 l s) NoX bt' tm w
  | [],s,bt,g=>⟨bt,g⟩
  | (p,n,u) :: r,s,bt,g=>by
    obtain ⟨bt1,g1⟩:=g.adopt1 p n u
    exact g1.zj9
end
end Go.Di
open Go.RowKit (Below)
namespace Go.Di
section
variable {P:Program} {C:Bs} {w w':World} {s s':St} {X:Nat→Prop} {bt:Nat→Option Value} {a:Act} {lay:List (TypeId × TI)} {args tm:Array Value} {w0:World}
def zra (tmps:Array Value):ResultVar→Sem Value
  | .tmp t=>pure (tmps.getD t undef)
  | .cell a t=>do loadVar t (← asAddr (tmps.getD a undef))
theorem resVal_ok (hL:zcC P lay) (g:Gam C s NoX bt a.tmps w) {r:ResultVar} {p:Bool × List A1} (h:resVal lay s r=some p):∃ v,(zra a.tmps r).run P w = .ok v w∧VOk (cx C s bt w) p.1 p.2 v:=by
  have op:∀ t,zaR (cx C s bt w) (s.get t) (a.tmps.getD t undef):=fun t=>zlc g (x := .tmp t) (fun _ _ hx=>hx)
  cases r with
  | tmp t =>
    simp only[resVal] at h
    split at h
    · rename_i b l hg
      cases h
      have:=op t
      rw[hg] at this
      exact ⟨_,rfl,this⟩
    · cases h
  | cell t T =>
    simp only[resVal] at h
    split at h
    · rename_i i n off hi hg
      split at h
      · rename_i l hl
        split at h
        · rename_i c hw
          cases h
          have hv:=op t
          rw[hg] at hv
          obtain ⟨a1,e1,e2,_⟩:=hv; cases e1
          obtain ⟨b,vs,T',hb,hv,hh,hok⟩:=zCi g hl e2
          obtain ⟨v,hr,hv'⟩:=znu (x:=cx C s bt w) (hL T i hi) (b:=b) (q:=0) (fun j a1 ha=>by
            obtain ⟨u,hu,k⟩:=hok.get ha
            refine ⟨u,?_,k⟩
            simp only[Nat.zero_add]
            show w.cell? _=_
            rw[cell_of_row _ b j vs T' (0,0) hh]; simpa using hu) hw
          refine ⟨v,?_,hv'⟩
          simp only[Nat.zero_add] at hr
          have hr:(loadVar T ⟨b,off,none⟩).run P w = .ok v w:=hr
          simp[zra,hv,asAddr,hr]
        · cases h
      · cases h
    · cases h
theorem zoF (hL:zcC P lay) (g:Gam C s NoX bt a.tmps w):∀ {rl:List ResultVar} {ps:List (Bool × List A1)},resVals lay s rl=some ps→∃ vs,(rl.mapM (zra a.tmps)).run P w = .ok vs w∧zk7 (cx C s bt w) ps vs∧vs.length=rl.length
  | [],ps,h=>by cases h; exact ⟨[],by simp,trivial,rfl⟩
  | r :: rl,ps,h=>by
    unfold resVals at h
    cases h1:resVal lay s r with
    | none=>rw[h1] at h; cases h
    | some p =>
      rw[h1] at h
      cases h2:resVals lay s rl with
      | none=>rw[h2] at h; cases h
      | some l =>
        rw[h2] at h; cases h
        obtain ⟨v,q1,q2⟩:=resVal_ok hL g h1
        obtain ⟨vs,q3,q4,q5⟩:=zoF hL g h2
        exact ⟨v :: vs,by simp[List.mapM_cons,q1,q3],⟨q2,q4⟩,by simp[q5]⟩
theorem zoE (hL:zcC P lay) (g:Gam C s NoX bt a.tmps w) {fn:Func} {ps:List (Bool × List A1)} (h:resVals lay s fn.results.toList=some ps) {tup:Bool} (ht:tup=!(Nat.beq fn.results.toList.length 1)) :
    ∃ vs,(results fn a.tmps).run P w = .ok (zkI tup vs.toArray) w∧zk7 (cx C s bt w) ps vs:=by
  obtain ⟨vs,h1,h2,h3⟩:=zoF hL g h
  have hm:(fn.results.mapM (zra a.tmps)).run P w = .ok vs.toArray w:=by
    rw[Array.mapM_eq_mapM_toList]; simp[h1]
  have hr:results fn a.tmps=(do let vs ← fn.results.mapM (zra a.tmps); pure (if h:vs.size=1 then vs[0] else .tuple vs)):=rfl
  refine ⟨vs,?_,h2⟩
  by_cases hl:vs.length=1
  · obtain ⟨v,rfl⟩:∃ v,vs=[v]:=List.length_eq_one_iff.1 hl
    have:tup=false:=by rw[ht,← h3]; rfl
    subst this
    rw[hr]; simp[hm,zkI,Array.getD]
  · have hne:fn.results.toList.length≠1:=by omega
    have:tup=true:=by
      rw[ht]
      cases hb:Nat.beq fn.results.toList.length 1 with
      | true=>exact absurd (Nat.eq_of_beq_eq_true hb) hne
      | false=>rfl
    subst this
    rw[hr]; simp[hm,hl,zkI]
theorem zk7.length {x:Cx}:∀ {ps:List (Bool × List A1)} {vs:List Value},zk7 x ps vs→ps.length=vs.length
  | [],[],_=>rfl
  | _ :: _,_ :: _,⟨_,h⟩=>by simp[h.length]
  | [],_ :: _,h=>h.elim
  | _ :: _,[],h=>h.elim
theorem zk7.get {x:Cx}:∀ {ps:List (Bool × List A1)} {vs:List Value},zk7 x ps vs→∀ {j:Nat} {p:Bool × List A1},ps[j]? = some p→∃ v,vs[j]? = some v∧VOk x p.1 p.2 v
  | [],[],_,j,p,h=>by simp at h
  | q :: ps,v :: vs,⟨h1,h2⟩,0,p,h=>by simp at h; subst h; exact ⟨v,rfl,h1⟩
  | q :: ps,v :: vs,⟨h1,h2⟩,j+1,p,h=>by simp at h; simpa using h2.get h
  | [],_ :: _,h,_,_,_=>h.elim
  | _ :: _,[],h,_,_,_=>h.elim
theorem zk2:∀ {ps:List (Bool × List A1)} {j:Nat} {av:AV},(zk3 ps)[j]? = some av→∃ p,ps[j]? = some p∧av = .v p.1 p.2
  | [],j,av,h=>by simp[zk3] at h
  | (b,l) :: r,0,av,h=>by simp[zk3] at h; exact ⟨(b,l),rfl,h.symm⟩
  | (b,l) :: r,j+1,av,h=>by simp[zk3] at h; simpa using zk2 (ps:=r) h
theorem zgk:∀ ps:List (Bool × List A1),(zk3 ps).length=ps.length
  | []=>rfl
  | _ :: r=>by simp[zk3,zgk r]
theorem zwG (g:Gam C s NoX bt args w) (n:Nat) :
    Gam { C with w0:=w } ⟨s.env++List.replicate (n - s.env.length) AV.bot,s.ents⟩ NoX bt (args++Array.replicate (n - args.size) undef) w:=by
  refine ⟨by simp[g.len],fun t av _ ht=>?_,g.ents,g.uniq,g.fresh,g.kb,Kp.refl _ _,g.pin,g.np,g.bs,fun b p hp=>⟨(g.fx b p hp).1,g.fxw b p hp⟩,g.tk⟩
  simp only at ht
  by_cases hj:t < s.env.length
  · rw [List.getElem?_append_left hj] at ht
    have hta:t < args.size:=by rw[← g.len]; exact hj
    have:(args++Array.replicate (n - args.size) undef).getD t undef=args.getD t undef:=by
      rw[Array.getD_eq_getD_getElem?,Array.getD_eq_getD_getElem?,Array.getElem?_append_left hta]
    rw[this]
    exact g.env t av (fun h=>h) ht
  · rw[List.getElem?_append_right (by omega)] at ht
    have:av = .bot:=List.eq_of_mem_replicate (List.mem_of_getElem? ht)
    subst this; exact zk6
theorem Gam.zKp (g:Gam { C with w0:=w0 } s X bt tm w) (h:Kp C.keep C.w0 w) (h0:zRf C):Gam C s X bt tm w :=
  ⟨g.len,g.env,g.ents,g.uniq,g.fresh,g.kb,h,g.pin,g.np,g.bs,h0,g.tk⟩
theorem zai {F:Nat→Option (Array Value→Prop)} {ρ:Type} {E:Env} {f:FuncId} {fn:Func} {code:Code} (hm:P.follows .mixedOrders=true) (hL:zcC P E.lay) (hC:zaj P F E.cons) (hf:P.funcs[f]? = some fn) (hb:fn.body=some code) (sg:Sig) (ht:sg.tup=!(Nat.beq fn.results.toList.length 1))
    (dec:Tys sg.zgF.ks→ρ) (out:ρ→Tys sg.zgF.ks) (hod:∀ y,out (dec y)=y) (run:Tys sg.tin.ks→Option ρ) (hrunE:∀ x,runF E fn sg dec x=run x)
    (hD:zfW E.plans code=true) (hl:∀ body∈zad code,∀ m,zif (keyOf body) E.loops=some m→zay P F m body):zaw P F f ⟨sg,ρ,run,out⟩:=by
  intro C w bt args x y0 hF hrun g0
  subst hF
  have hrun':evalC E code ⟨(sg.tin.enc x).env++List.replicate (fn.ntmps - (sg.tin.enc x).env.length) AV.bot,(sg.tin.enc x).ents⟩ (fun e s=>match leaf E.lay fn.results.toList sg e s with
    | some y=>some (dec y)
    | none=>none)=some y0:=by
    have:runF E fn sg dec x=some y0:=(hrunE x).trans hrun
    unfold runF at this; rw[hb] at this; exact this
  refine calls_of_wp hf hb (zdm (C:={ C with w0:=w }) hm hL hC code hD hl (zwG g0 fn.ntmps) rfl hrun' fun e s bt a w' g hd hk0=>?_)
  obtain ⟨y,hk,hy⟩:∃ y,leaf E.lay fn.results.toList sg e s=some y∧out y0=y:=by
    have hk0':(match leaf E.lay fn.results.toList sg e s with
      | some y=>some (dec y)
      | none=>none)=some y0:=hk0
    split at hk0'
    · rename_i y hy; cases hk0'; exact ⟨y,hy,hod y⟩
    · cases hk0'
  have fin:leaf E.lay fn.results.toList sg .ret s=some y→bodyPost P fn (fun e w'=>∃ vs β',e = .returned (zkI sg.tup vs)∧Kp C.keep w w'∧Gam C (sg.zgF.enc (out y0)) NoX β' vs w') .ret a w':=by
    intro hk
    unfold leaf at hk
    simp only at hk
    split at hk
    · rename_i ps hps
      obtain ⟨vs,h1,h2⟩:=zoE hL g hps ht
      refine ⟨hd,_,h1,vs.toArray,?_⟩
      have ga:Gam { C with w0:=w } ⟨zk3 ps,s.ents⟩ NoX bt vs.toArray w':=g.zB5 (by rw[zgk]; exact h2.length) fun j av v k1 k2=>by
        obtain ⟨p,k3,rfl⟩:=zk2 k1
        obtain ⟨v',k4,k5⟩:=h2.get k3
        rw[k2] at k4; cases k4; exact k5
      obtain ⟨bt2,g2⟩:=ga.zj9 (l:=zrh 0 sg.outs sg.res)
      have g3:=Tm.zpL hk g2
      rw[hy]
      exact ⟨_,rfl,g3.below,g3.zKp (g0.below.trans g3.below) g0.fx⟩
    · cases hk
  cases e with
  | normal=>exact fin hk
  | ret=>exact fin hk
  | exit i=>cases hk
end
end Go.Di
open Go.RowKit (Below)
namespace Go.Di
/-! ### What does not hang on the pool -/
def Cell.free:Cell→Prop
  | .tok _=>False
  | .sl t _=>t ≠ .trat
  | _=>True
theorem znK {t:ST} (ht:t ≠ .trat) {xs:List t.El} {i:Nat} {c:Cell} (h:(flat t xs)[i]? = some c):c.free:=by
  have hm:c∈flat t xs:=List.mem_of_getElem? h
  simp only[flat,List.mem_flatMap] at hm
  obtain ⟨x,_,hx⟩:=hm
  cases t with
  | trat=>exact absurd rfl ht
  | int=>simp[ST.cells] at hx; subst hx; trivial
  | byte=>simp[ST.cells] at hx; subst hx; trivial
  | str=>simp[ST.cells] at hx; subst hx; trivial
  | rat=>simp[ST.cells] at hx; rcases hx with rfl | rfl | rfl<;>first | trivial | (intro e; cases e)
  | sta=>simp[ST.cells] at hx; rcases hx with rfl | rfl | rfl | rfl | rfl | rfl | rfl | rfl<;>first | trivial | (intro e; cases e)
  | obs=>simp[ST.cells] at hx; rcases hx with rfl | rfl | rfl | rfl | rfl | rfl | rfl | rfl | rfl<;>first | trivial | (intro e; cases e)
  | rats=>simp[ST.cells] at hx; subst hx; intro e; cases e
theorem Rd.free {w:World} {π π':Nat→Option Value} {v:Value} {c:Cell} {fp:List Nat} (h:Rd w π v c fp) (hc:c.free):Rd w π' v c fp:=by
  induction h with
  | int k n=>exact .int k n
  | bool b=>exact .bool b
  | str s=>exact .str s
  | any v h=>exact .any v h
  | tok a l c k h1 h2=>exact hc.elim
  | emp a t cap=>exact .emp a t cap
  | sl b off len cap t xs vals fp hl hcap h1 h2 ih=>exact .sl b off len cap t xs vals fp hl hcap h1 fun i c hi=>ih i c hi (znK hc hi)
def CK.zlk:CK→Bool
  | .tok=>false
  | .sl t=>Bool.not (ST.eqb t .trat)
  | _=>true
theorem CK.free {c:CK} (h:c.zlk=true) (x:c.ty):(c.cell x).free:=by
  cases c with
  | tok=>cases h
  | sl t=>intro e; subst e; cases h
  | _=>trivial
def znJ:List CK→Bool
  | []=>true
  | c :: r=>Bool.and c.zlk (znJ r)
theorem znI:∀ {ks:List CK},znJ ks=true→∀ (x:Tys ks),∀ c∈Tys.cells ks x,c.free
  | [],_,_,c,hc=>by cases hc
  | k :: ks,h,x,c,hc=>by
    obtain ⟨h1,h2⟩:=Bool.and_eq_true_iff.1 h
    rcases List.mem_cons.1 hc with rfl | hc
    · exact CK.free h1 x.1
    · exact znI h2 x.2 c hc
def C1T.zlk:C1T→Bool
  | .d c=>c.zlk
  | .own n | .lp n _ | .win n | .dp n=>Bool.not (Nat.beq n PN)
  | .sp ks=>znJ ks
  | .fn _ kss=>kss.all znJ
  | .bot=>true
def ET.zlk:ET→Bool
  | .box l=>l.all C1T.zlk
  | .arr _ t=>Bool.not (ST.eqb t .trat)
  | .deep _=>true
  | .pool=>false
def zGU:List (Bool × List C1T)→Bool
  | []=>true
  | p :: r=>Bool.and (p.2.all C1T.zlk) (zGU r)
def zGV:List (Nat × ET)→Bool
  | []=>true
  | p :: r=>Bool.and p.2.zlk (zGV r)
def Sig.zlk (g:Sig):Bool:=Bool.and (Bool.and (zGU g.args) (zGV g.ins)) (Bool.and (zGU g.res) (zGV g.outs))
def A1.free:A1→Prop
  | .d c=>c.free
  | .sp cs _=>∀ c∈cs,c.free
  | .fn _ caps=>∀ cs∈caps,∀ c∈cs,c.free
  | .lp n _ | .own n | .win n _ _ | .oe n _ _ | .dp n | .de n _ _ | .dc n _ _ _=>n≠PN
  | _=>True
def Ent.free:Ent→Prop
  | .box l=>∀ a∈l,a.free
  | .arr _ t _=>t ≠ .trat
  | .deep _ _ _=>True
  | .pool _=>False
theorem zyv {n:Nat} (h:Bool.not (Nat.beq n PN)=true):n≠PN:=fun e=>by subst e; simp at h
theorem encL_free:∀ {l:List C1T},l.all C1T.zlk=true→∀ (x:Tys (ksL l)),∀ a∈encL l x,a.free
  | [],_,_,a,ha=>by cases ha
  | t :: r, h,x,a,ha=>by
    obtain ⟨h1,h2⟩:=Bool.and_eq_true_iff.1 (by simpa using h:(C1T.zlk t && r.all C1T.zlk)=true)
    have ih:=fun y=>encL_free (l:=r) h2 y
    cases t with
    | d c=>rcases List.mem_cons.1 ha with rfl | ha; exact CK.free h1 _; exact ih _ a ha
    | bot=>rcases List.mem_cons.1 ha with rfl | ha; trivial; exact ih _ a ha
    | own n=>rcases List.mem_cons.1 ha with rfl | ha; exact zyv h1; exact ih _ a ha
    | lp n o=>rcases List.mem_cons.1 ha with rfl | ha; exact zyv h1; exact ih _ a ha
    | win n=>rcases List.mem_cons.1 ha with rfl | ha; exact zyv h1; exact ih _ a ha
    | dp n=>rcases List.mem_cons.1 ha with rfl | ha; exact zyv h1; exact ih _ a ha
    | sp ks=>rcases List.mem_cons.1 ha with rfl | ha; exact znI h1 _; exact ih _ a ha
    | fn f kss =>
      rcases List.mem_cons.1 ha with rfl | ha
      · have key:∀ (kss:List (List CK)),kss.all znJ=true→∀ (y:Tys (flatK kss)),∀ cs∈zOI kss y,∀ c∈cs,c.free:=by
          intro kss
          induction kss with
          | nil=>intro _ _ cs hcs; cases hcs
          | cons k q ih =>
            intro hk y cs hcs
            obtain ⟨k1,k2⟩:=Bool.and_eq_true_iff.1 (by simpa using hk:(znJ k && q.all znJ)=true)
            rcases List.mem_cons.1 hcs with rfl | hcs
            · exact znI k1 _
            · exact ih k2 _ cs hcs
        exact key kss h1 _
      · exact ih _ a ha
theorem znS:∀ {l:List (Bool × List C1T)},zGU l=true→∀ (x:Tys (ksS (l.map some))),∀ av∈encS (l.map some) x,∃ g m,av = .v g m∧∀ a∈m,a.free
  | [],_,_,av,h=>by cases h
  | (b,m) :: r,h,x,av,ha=>by
    obtain ⟨h1,h2⟩:=Bool.and_eq_true_iff.1 h
    rcases List.mem_cons.1 ha with rfl | ha
    · exact ⟨b,_,rfl,encL_free h1 _⟩
    · exact znS h2 _ av ha
theorem znT:∀ {l:List (Nat × ET)},zGV l=true→∀ (x:Tys (ksE l)) n e,look n (zgE l x)=some e→e.free
  | [],_,_,n,e,h=>by cases h
  | (k,t) :: r,h,x,n,e,hl=>by
    obtain ⟨h1,h2⟩:=Bool.and_eq_true_iff.1 h
    have ih:=fun y=>znT (l:=r) h2 y n e
    cases t with
    | box m =>
      simp only[zgE,zas] at hl
      split at hl
      · cases hl; exact encL_free h1 _
      · exact ih _ hl
    | arr fr u =>
      simp only[zgE,zas] at hl
      split at hl
      · cases hl; intro e; subst e; cases h1
      · exact ih _ hl
    | deep u =>
      simp only[zgE,zas] at hl
      split at hl
      · cases hl; trivial
      · exact ih _ hl
    | pool=>cases h1
structure Sw (x y:Cx):Prop where
  w:y.w=x.w
  av:∀ b,x.av b→y.av b
  top:∀ b,Top y.lk y.β b→Top x.lk x.β b
  lk:∀ n,n≠PN→y.lk n=x.lk n
  bt:∀ n,n≠PN→y.β n=x.β n
theorem Sw.fine {x y:Cx} (h:Sw x y) {fp:List Nat} (hf:x.fine fp):y.fine fp:=fun b hb=>⟨by rw[h.w]; exact (hf b hb).1,fun ht=>(hf b hb).2.1 (h.top b ht),h.av b (hf b hb).2.2⟩
theorem Sw.rd {x y:Cx} (h:Sw x y) {v:Value} {c:Cell} (hc:c.free) (hr:x.rd v c):y.rd v c:=by
  obtain ⟨fp,h1,h2⟩:=hr
  exact ⟨fp,by rw[h.w]; exact h1.free hc,h.fine h2⟩
theorem Sw.za7 {x y:Cx} (h:Sw x y) {b off:Nat} {cs:List Cell} (hc:∀ c∈cs,c.free) (hr:x.za7 b off cs):y.za7 b off cs:=by
  refine ⟨hr.1.imp id h.fine,fun i c hi=>?_⟩
  obtain ⟨v,h1,h2⟩:=hr.2 i c hi
  exact ⟨v,by rw[h.w]; exact h1,h.rd (hc c (List.mem_of_getElem? hi)) h2⟩
theorem Sw.a1 {x y:Cx} (h:Sw x y) {a:A1} {v:Value} (hf:a.free) (ha:A1Ok x a v):A1Ok y a v:=by
  cases a with
  | bot=>trivial
  | d c=>exact h.rd hf ha
  | mt=>exact ha
  | lp n off=>intro hs; rw[h.lk n hf] at hs; rw[h.bt n hf]; exact ha hs
  | own n=>intro fr t xs hs; rw[h.lk n hf] at hs; rw[h.bt n hf]; exact ha fr t xs hs
  | win n lo len=>intro fr t xs hs; rw[h.lk n hf] at hs; rw[h.bt n hf]; exact ha fr t xs hs
  | sp cs off=>obtain ⟨b,o,h1,h2⟩:=ha; exact ⟨b,o,h1,h.za7 hf h2⟩
  | oe n i off=>intro fr t xs hs; rw[h.lk n hf] at hs; rw[h.bt n hf]; exact ha fr t xs hs
  | dp n=>intro hs; rw[h.lk n hf] at hs; rw[h.bt n hf]; exact ha hs
  | de n i off=>intro fr t xs hs; rw[h.lk n hf] at hs; rw[h.bt n hf]; exact ha fr t xs hs
  | dc n i off ys=>intro fr t xs hs; rw[h.lk n hf] at hs; rw[h.bt n hf]; exact ha fr t xs hs
  | fn f caps =>
    obtain ⟨vs,h1,h2,h3⟩:=ha
    refine ⟨vs,h1,h2,fun i cs hi=>?_⟩
    obtain ⟨b,o,h4,h5⟩:=h3 i cs hi
    exact ⟨b,o,h4,h.za7 (hf cs (List.mem_of_getElem? hi)) h5⟩
theorem Sw.l1 {x y:Cx} (h:Sw x y) {l:List A1} {vs:List Value} (hf:∀ a∈l,a.free) (hv:zck x l vs):zck y l vs:=hv.conv fun a ha _ h1=>h.a1 (hf a ha) h1
theorem Sw.v {x y:Cx} (h:Sw x y) {g:Bool} {l:List A1} {v:Value} (hf:∀ a∈l,a.free) (hv:VOk x g l v):VOk y g l v:=hv.conv fun a ha _ h1=>h.a1 (hf a ha) h1
theorem Sw.ent {x y:Cx} (h:Sw x y) {e:Ent} {v:Value} (hf:e.free) (he:EntOk x e v):EntOk y e v:=by
  cases e with
  | pool n=>exact hf.elim
  | box l =>
    obtain ⟨b,vs,T,h1,h2,h3⟩:=he
    exact ⟨b,vs,T,h1,by rw[h.w]; exact h2,h.l1 hf h3⟩
  | arr fr t xs =>
    cases fr with
    | true=>exact h.rd (c := .sl t xs) hf he
    | false =>
      rcases he with h0 | ⟨g,cap,cur,T,h1,h2,h3,h4,h5,h6,h7⟩
      · exact .inl h0
      · refine .inr ⟨g,cap,cur,T,h1,h2,h3,h4,by rw[h.w]; exact h5,h6,fun i c hc=>?_⟩
        obtain ⟨u,hu,hr⟩:=h7 i c hc
        exact ⟨u,hu,h.rd (znK hf hc) hr⟩
  | deep fr t xs =>
    cases fr with
    | false=>exact DeepOk.go he fun b _=>by rw[h.w]
    | true =>
      obtain ⟨s,us,h1,hcd,h4⟩:=he
      have ht:t ≠ .trat:=by rintro rfl; cases hcd
      refine ⟨s,us,h1,hcd,?_⟩
      rcases h4 with h0 | ⟨g,cap,k1,k2,k3,k4⟩
      · exact .inl h0
      · refine .inr ⟨g,cap,k1,k2,h.fine k3,fun i c hc=>?_⟩
        obtain ⟨u,b,q1,q2,q3,q4⟩:=k4 i c hc
        exact ⟨u,b,by rw[h.w]; exact q1,q2,h.rd (znK ht hc) q3,q4⟩
section
variable {P:Program} {C:Bs} {w w':World} {s s':St} {X:Nat→Prop} {β β':Nat→Option Value} {tm:Array Value}
theorem Gam.zNC {tk':Option (Nat→Option Value)} (g:Gam C s NoX β tm w) (henv:s'.env=s.env) (_hpn:look PN s.ents=none) (hlk:∀ k,k≠PN→look k s'.ents=look k s.ents) (hbt:∀ k,k≠PN→β' k=β k)
    (hfe:∀ av∈s.env,∃ g m,av = .v g m∧∀ a∈m,a.free) (hfn:∀ n e,look n s.ents=some e→e.free)
    (hnew:look PN s'.ents=none∨(look PN s'.ents=some (.pool 0)∧β' PN=some (.tuple #[]))) (htk:∀ π,tk'=some π→zd1 β'=π∧look PN s'.ents=none) :
    Gam { C with tk:=tk' } s' NoX β' tm w:=by
  have hTop:∀ b,Top (fun n=>look n s'.ents) β' b→Top (fun n=>look n s.ents) β b:=by
    rintro b ⟨n,e,v,h1,h2,h3,h4⟩
    have h1:look n s'.ents=some e:=h1
    by_cases hn:n=PN
    · subst hn
      rcases hnew with h0 | ⟨h0,h5⟩
      · rw[h0] at h1; cases h1
      · rw[h5] at h3; cases h3; simp[zaq] at h4
    · rw[hlk n hn] at h1; rw[hbt n hn] at h3
      exact ⟨n,e,v,h1,h2,h3,h4⟩
  have hsw:Sw (cx C s β w) (cx { C with tk:=tk' } s' β' w):=⟨rfl,fun _ h=>h,hTop,hlk,hbt⟩
  have pinNe:∀ n v,C.pin n=some v→n≠PN:=fun n v h=>(g.np n (by rw[h]; rfl)).2
  refine ⟨by rw[henv]; exact g.len,fun t av hx h=>?_,fun n e v h1 h2=>?_,fun n m e f u v b h1 h2 h3 h4 h5 h6 h7 h8=>?_,fun b h=>g.fresh b (hTop b h),g.kb,g.below,fun n v hp hl=>?_,g.np,fun n e h=>?_,g.fx,htk⟩
  · rw[henv] at h
    obtain ⟨gg,m,rfl,hm⟩:=hfe av (List.mem_of_getElem? h)
    exact hsw.v hm (g.env t _ hx h)
  · by_cases hn:n=PN
    · subst hn
      rcases hnew with h0 | ⟨h0,h5⟩
      · rw[h0] at h1; cases h1
      · rw[h0] at h1; cases h1
        rw[h5] at h2; cases h2
        exact ⟨[],rfl,rfl,List.nodup_nil,fun i hi=>by omega⟩
    · rw[hlk n hn] at h1; rw[hbt n hn] at h2
      exact hsw.ent (hfn n e h1) (g.ents n e v h1 h2)
  · have one:∀ n e u,look n s'.ents=some e→β' n=some u→b∈zaq u→n≠PN:=fun n e u k1 k2 k3 hn=>by
      subst hn
      rcases hnew with h0 | ⟨h0,h9⟩
      · rw[h0] at k1; cases k1
      · rw[h9] at k2; cases k2; simp[zaq] at k3
    have hn:=one n e u h1 h5 h7
    have hm:=one m f v h2 h6 h8
    rw[hlk n hn] at h1; rw[hlk m hm] at h2; rw[hbt n hn] at h5; rw[hbt m hm] at h6
    exact g.uniq n m e f u v b h1 h2 h3 h4 h5 h6 h7 h8
  · have hn:=pinNe n v hp
    rw[hlk n hn] at hl; rw[hbt n hn]; exact g.pin n v hp hl
  · by_cases hn:n=PN
    · subst hn
      rcases hnew with h0 | ⟨_,h5⟩
      · rw[h0] at h; cases h
      · rw[h5]; rfl
    · rw[hlk n hn] at h; rw[hbt n hn]; exact g.bs n e h
/-! ### Slices are taken out of the pool -/
theorem zkO (ns:List Nat) (k:Nat):∀ es,look k (zoo ns es)=if k=PN then none else (look k es).map (Ent.und ns k)
  | []=>by simp[zoo,look]
  | (m,e) :: r=>by
    unfold zoo
    split
    · rename_i h
      have h:=Nat.eq_of_beq_eq_true h
      subst h
      rw[zkO ns k r,zas]
      split
      · rfl
      · rfl
    · rename_i h
      have hm:m≠PN:=fun e=>by subst e; simp at h
      rw[zas,zkO ns k r,zas]
      by_cases h1:k=m
      · subst h1; simp[hm]
      · simp[h1]
theorem zwP (ns:List Nat) (t:Nat):∀ l:List AV,(zqX ns l)[t]? = (l[t]?).map (AV.und ns)
  | []=>by simp[zqX]
  | a :: l=>by cases t with
    | zero=>simp[zqX]
    | succ t=>simpa [zqX] using zwP ns t l
theorem znv (ns:List Nat):∀ l:List AV,(zqX ns l).length=l.length
  | []=>rfl
  | a :: l=>by simp[zqX,znv ns l]
theorem zyB {ns:List Nat}:∀ {l:List Nat},zFi ns l=false→∀ m∈l,m ∉ ns
  | [],_,m,h=>by cases h
  | k :: r,h,m,hm=>by
    unfold zFi at h
    split at h
    · cases h
    · rename_i hk
      rcases List.mem_cons.1 hm with rfl | hm
      · intro hh; rw[zaC.2 hh] at hk; cases hk
      · exact zyB h m hm
theorem zpb {es:List (Nat × Ent)}:∀ {ns:List Nat},zqT es ns=true→∀ m∈ns,m % 64≠63∧∃ xs,look m es=some (.arr false .trat xs)
  | [],_,m,h=>by cases h
  | k :: r,h,m,hm=>by
    unfold zqT at h
    split at h
    · rename_i xs hl hb
      rcases List.mem_cons.1 hm with rfl | hm
      · exact ⟨(fun e=>by rw[e] at hb; cases hb),xs,hl⟩
      · exact zpb h m hm
    · cases h
def zlb (π:Nat→Option Value):List ST.trat.El→List Value
  | []=>[]
  | r :: l => .bool false :: (π (2 * (TRt.mag r).id)).getD undef :: (π (2 * (TRt.den r).id)).getD undef :: zlb π l
theorem zmg (π:Nat→Option Value):∀ l,(zlb π l).length=3 * l.length
  | []=>rfl
  | r :: l=>by simp only[zlb,List.length_cons,zmg π l]; omega
theorem zrb (π:Nat→Option Value):∀ {l:List ST.trat.El} {i:Nat} {c:Cell},(flat .trat l)[i]? = some c→(zlb π l)[i]? = some (match c with
    | .tok k=>(π (2 * k.id)).getD undef
    | _ => .bool false)
  | [],i,c,h=>by
    have h':([]:List Cell)[i]? = some c:=h
    simp at h'
  | r :: l,i,c,h=>by
    have h':(Cell.bool (TRt.neg r) :: .tok (TRt.mag r) :: .tok (TRt.den r) :: flat .trat l)[i]? = some c:=h
    simp only[zlb]
    rcases i with _ | _ | _ | i
    · simp at h'; subst h'; rfl
    · simp at h'; subst h'; rfl
    · simp at h'; subst h'; rfl
    · simpa using zrb π (l:=l) (i:=i) (by simpa using h')
theorem zh7 (π:Nat→Option Value) {b:Nat}:∀ {l:List ST.trat.El},b∈(zlb π l).flatMap zaE→∃ id∈ziW l,b∈zaE ((π (2 * id)).getD undef)
  | [],h=>by cases h
  | r :: l,h=>by
    simp only[zlb,List.flatMap_cons,List.mem_append] at h
    rcases h with h | h | h | h
    · cases h
    · exact ⟨_,List.mem_cons_self ..,h⟩
    · exact ⟨_,List.mem_cons_of_mem _ (List.mem_cons_self ..),h⟩
    · obtain ⟨id,h1,h2⟩:=zh7 π h
      exact ⟨id,List.mem_cons_of_mem _ (List.mem_cons_of_mem _ h1),h2⟩
theorem znb (π:Nat→Option Value) (hn:∀ i,(zaE ((π i).getD undef)).Nodup) (hp:∀ i j b,b∈zaE ((π (2 * i)).getD undef)→b∈zaE ((π (2 * j)).getD undef)→i=j):∀ {l:List ST.trat.El},(ziW l).Nodup→((zlb π l).flatMap zaE).Nodup
  | [],_=>List.nodup_nil
  | r :: l,h=>by
    obtain ⟨h1,h⟩:=List.nodup_cons.1 (show ((TRt.mag r).id :: (TRt.den r).id :: ziW l).Nodup from h)
    obtain ⟨h2,h3⟩:=List.nodup_cons.1 h
    simp only[zlb,List.flatMap_cons]
    refine List.nodup_append.2 ⟨List.nodup_nil,List.nodup_append.2 ⟨hn _,List.nodup_append.2 ⟨hn _,znb π hn hp h3,fun a ha b hb e=>?_⟩,fun a ha b hb e=>?_⟩,fun a ha=>by cases ha⟩
    · subst e
      obtain ⟨id,k1,k2⟩:=zh7 π hb
      exact h2 (hp _ _ a ha k2▸k1)
    · subst e
      rcases List.mem_append.1 hb with hb | hb
      · exact h1 (hp _ _ a ha hb▸List.mem_cons_self ..)
      · obtain ⟨id,k1,k2⟩:=zh7 π hb
        exact h1 (List.mem_cons_of_mem _ (hp _ _ a ha k2▸k1))
theorem znF {es:List (Nat × Ent)} {m id:Nat} {xs:List ST.trat.El}:∀ {ns:List Nat},m∈ns→look m es=some (.arr false .trat xs)→id∈ziW xs→id∈zli es ns
  | k :: r,hm,hl,hi=>by
    unfold zli
    rcases List.mem_cons.1 hm with rfl | hm
    · rw[hl]; exact List.mem_append_left _ hi
    · have ih:=znF hm hl hi
      split
      · exact List.mem_append_right _ ih
      · exact ih
theorem zkp {es:List (Nat × Ent)} {m k id:Nat} {xs ys:List ST.trat.El}:∀ {ns:List Nat},(zli es ns).Nodup→m∈ns→k∈ns→look m es=some (.arr false .trat xs)→look k es=some (.arr false .trat ys)→id∈ziW xs→id∈ziW ys→m=k
  | n :: r,hn,hm,hk,h1,h2,i1,i2=>by
    unfold zli at hn
    rcases List.mem_cons.1 hm with e1 | hm'<;>rcases List.mem_cons.1 hk with e2 | hk'
    · rw[e1,e2]
    · subst e1; rw[h1] at hn
      exact absurd rfl ((List.nodup_append.1 hn).2.2 id i1 id (znF (ns:=r) hk' h2 i2))
    · subst e2; rw[h2] at hn
      exact absurd rfl ((List.nodup_append.1 hn).2.2 id i2 id (znF (ns:=r) hm' h1 i1))
    · split at hn
      · exact zkp (List.nodup_append.1 hn).2.1 hm' hk' h1 h2 i1 i2
      · exact zkp hn hm' hk' h1 h2 i1 i2
theorem zko {es:List (Nat × Ent)} {m:Nat} {xs:List ST.trat.El}:∀ {ns:List Nat},(zli es ns).Nodup→m∈ns→look m es=some (.arr false .trat xs)→(ziW xs).Nodup
  | n :: r,hn,hm,h1=>by
    unfold zli at hn
    rcases List.mem_cons.1 hm with e1 | hm
    · subst e1; rw[h1] at hn; exact (List.nodup_append.1 hn).1
    · split at hn
      · exact zko (List.nodup_append.1 hn).2.1 hm h1
      · exact zko hn hm h1
theorem Gam.undeep (g:Gam C s NoX β tm w) {n:Nat} {ns:List Nat} (hp:look PN s.ents=some (.pool n)) (hns:∀ m∈ns,m % 64≠63∧∃ xs,look m s.ents=some (.arr false .trat xs)) (hid:(zli s.ents ns).Nodup) :
    ∃ β',Gam C ⟨zqX ns s.env,zoo ns s.ents⟩ NoX β' tm w:=by
  obtain ⟨p0,hpv⟩:∃ u,β PN=some u:=by
    have:=g.bs PN _ hp
    cases hb:β PN with
    | none=>rw[hb] at this; cases this
    | some u=>exact ⟨u,rfl⟩
  have hpo:=g.ents PN _ _ hp hpv
  obtain ⟨us,rfl,p2,p3,p4⟩:=hpo
  have hC:C.tk=none:=by
    cases h:C.tk with
    | none=>rfl
    | some π=>have:=(g.tk π h).2; rw[hp] at this; cases this
  have tkE:∀ i,zd1 β i=us[i]? := fun i=>by simp[zd1,hpv]
  have hPns:PN ∉ ns:=fun h=>by obtain ⟨_,xs,h1⟩:=hns PN h; rw[hp] at h1; cases h1
  have tokTop:∀ i b,b∈zaE ((zd1 β i).getD undef)→b∈us.flatMap zaE:=fun i b hb=>by
    rw[tkE] at hb
    cases h:us[i]? with
    | none=>rw[h] at hb; cases hb
    | some u=>rw[h] at hb; exact List.mem_flatMap.2 ⟨u,List.mem_of_getElem? h,hb⟩
  have tokInj:∀ i j b,b∈zaE ((zd1 β (2 * i)).getD undef)→b∈zaE ((zd1 β (2 * j)).getD undef)→i=j:=fun i j b h1 h2=>by
    rw[tkE] at h1 h2
    cases h:us[2 * i]? with
    | none=>rw[h] at h1; cases h1
    | some u =>
      cases h':us[2 * j]? with
      | none=>rw[h'] at h2; cases h2
      | some u' =>
        rw[h] at h1; rw[h'] at h2
        have:=zmP p3 h h' h1 h2
        omega
  have tokNd:∀ i,(zaE ((zd1 β i).getD undef)).Nodup:=fun i=>by
    rw[tkE]
    cases h:us[i]? with
    | none=>exact List.nodup_nil
    | some u=>exact zoL p3 (List.mem_of_getElem? h)
  have hpT:zaq (.tuple us.toArray)=us.flatMap zaE:=by simp[zaq]
  let val:Nat→List ST.trat.El→Value→Value:=fun m xs sv => .tuple (sv :: zlb (zd1 β) xs).toArray
  let β':Nat→Option Value:=fun m=>if m∈ns then (match look m s.ents,β m with
    | some (.arr _ .trat xs),some sv=>some (val m xs sv)
    | _,_=>none) else β m
  have b'in:∀ m xs sv,m∈ns→look m s.ents=some (.arr false .trat xs)→β m=some sv→β' m=some (val m xs sv):=fun m xs sv h1 h2 h3=>by
    show (if m∈ns then _ else _)=_
    rw[if_pos h1,h2,h3]
  have b'out:∀ m,m ∉ ns→β' m=β m:=fun m h=>if_neg h
  have sval:∀ m,m∈ns→∃ xs sv,look m s.ents=some (.arr false .trat xs)∧β m=some sv∧EntOk (cx C s β w) (.arr false .trat xs) sv:=fun m hm=>by
    obtain ⟨_,xs,h1⟩:=hns m hm
    have:=g.bs m _ h1
    cases hb:β m with
    | none=>rw[hb] at this; cases this
    | some sv=>exact ⟨xs,sv,h1,rfl,g.ents m _ _ h1 hb⟩
  have isSl:∀ (xs:List ST.trat.El) sv,EntOk (cx C s β w) (.arr false .trat xs) sv→∃ a len cap,sv = .slice a len cap:=fun xs sv h=>by
    rcases h with ⟨_,a,rfl⟩ | ⟨_,_,_,_,rfl,_⟩<;>exact ⟨_,_,_,rfl⟩
  -- what an entry is now
  have now:∀ k f,look k (zoo ns s.ents)=some f→k≠PN∧∃ e,look k s.ents=some e∧f=e.und ns k:=fun k f h=>by
    rw[zkO] at h
    split at h
    · cases h
    · rename_i hk
      cases h0:look k s.ents with
      | none=>rw[h0] at h; cases h
      | some e=>rw[h0] at h; cases h; exact ⟨hk,e,rfl,rfl⟩
  -- who had a block before
  have own:∀ k f u b,look k (zoo ns s.ents)=some f→f.mut=true→β' k=some u→b∈zaq u →
      (∃ e v,look k s.ents=some e∧e.mut=true∧β k=some v∧b∈zaq v)∨(k∈ns∧b∈us.flatMap zaE∧∃ xs,look k s.ents=some (.arr false .trat xs)∧∃ id∈ziW xs,b∈zaE ((zd1 β (2 * id)).getD undef)):=by
    intro k f u b h1 h2 h3 h4
    obtain ⟨hk,e,q1,rfl⟩:=now k f h1
    by_cases hm:k∈ns
    · obtain ⟨xs,sv,r1,r2,r3⟩:=sval k hm
      rw[b'in k xs sv hm r1 r2] at h3; cases h3
      have h4':b∈(sv :: zlb (zd1 β) xs).flatMap zaE:=by simpa [val,zaq] using h4
      rw[List.flatMap_cons,List.mem_append] at h4'
      rcases h4' with h | h
      · exact .inl ⟨_,sv,r1,rfl,r2,zfF h⟩
      · obtain ⟨id,i1,i2⟩:=zh7 _ h
        exact .inr ⟨hm,tokTop _ b i2,xs,r1,id,i1,i2⟩
    · rw [b'out k hm] at h3
      refine .inl ⟨e,u,q1,?_,h3,h4⟩
      cases e with
      | arr fr t xs =>
        cases fr with
        | false=>rfl
        | true=>exact h2
      | box l=>rfl
      | deep fr t xs=>exact h2
      | pool q=>rfl
  have hTop:∀ b,Top (fun k=>look k (zoo ns s.ents)) β' b→Top (fun k=>look k s.ents) β b:=by
    rintro b ⟨k,f,u,h1,h2,h3,h4⟩
    rcases own k f u b h1 h2 h3 h4 with ⟨e,v,q1,q2,q3,q4⟩ | ⟨_,q,_⟩
    · exact ⟨k,e,v,q1,q2,q3,q4⟩
    · exact ⟨PN,_,_,hp,rfl,hpv,by rw[hpT]; exact q⟩
  have b'PN:β' PN=β PN:=b'out PN hPns
  have htk:zd1 β'=zd1 β:=by funext i; simp only[zd1,b'PN]
  have hle : Le (cx C s β w) (cx C ⟨zqX ns s.env,zoo ns s.ents⟩ β' w) (fun k=>k ∉ ns):=by
    refine ⟨fun _ h=>h,fun _ _ _=>rfl,Nat.le_refl _,fun b _ _ h=>hTop b h,fun k hk=>?_,fun k hk _ fr t xs h=>?_,fun i v h=>(congrFun htk i).trans h⟩
    · simp only [cx]
      rw[zkO]
      split
      · left; rfl
      · rw [b'out k hk]
        cases h0:look k s.ents with
        | none=>left; rfl
        | some e =>
          right; left; refine ⟨rfl,?_⟩
          cases e with
          | box l=>right; left; exact ⟨l,zKX ns l,rfl,rfl⟩
          | deep fr t xs=>left; rfl
          | pool q=>left; rfl
          | arr fr t xs =>
            left
            have hb:zgx k ns=false:=by
              cases h:zgx k ns with
              | false=>rfl
              | true=>exact absurd (zaC.1 h) hk
            cases fr<;>cases t<;>simp[Ent.und,hb]
    · have h:look k (zoo ns s.ents)=some (.deep fr t xs):=h
      obtain ⟨_,e,q1,q2⟩:=now k _ h
      refine ⟨fr,?_,b'out k hk⟩
      show look k s.ents=_
      rw[q1]
      have hb:zgx k ns=false:=by
        cases h:zgx k ns with
        | false=>rfl
        | true=>exact absurd (zaC.1 h) hk
      cases e with
      | box l=>cases q2
      | deep fr' t' xs'=>exact congrArg some q2.symm
      | pool q=>cases q2
      | arr fr' t' xs'=>cases fr'<;>cases t'<;>simp[Ent.und,hb] at q2
  have one:∀ (a:A1) v,A1Ok (cx C s β w) a v→A1Ok (cx C ⟨zqX ns s.env,zoo ns s.ents⟩ β' w) (a.und ns) v:=by
    intro a v ha
    have other:A1Ok (cx C ⟨zqX ns s.env,zoo ns s.ents⟩ β' w) (match zFi ns a.nms with
        | true=>A1.bot
        | false=>a) v:=by
      split
      · trivial
      · rename_i h
        have h:=zyB h
        refine hle.a1 ?_ ha
        cases a with
        | dc m i o ys=>exact ⟨h m (by simp[A1.nms]),h (dcn m) (by simp[A1.nms])⟩
        | lp m o=>exact h m (by simp[A1.nms])
        | own m=>exact h m (by simp[A1.nms])
        | win m l k=>exact h m (by simp[A1.nms])
        | oe m i o=>exact h m (by simp[A1.nms])
        | dp m=>exact h m (by simp[A1.nms])
        | de m i o=>exact h m (by simp[A1.nms])
        | _=>trivial
    cases a with
    | own m =>
      simp only[A1.und]
      split
      · rename_i h
        have hm:=zaC.1 h
        obtain ⟨xs,sv,r1,r2,r3⟩:=sval m hm
        have hv:β m=some v:=ha _ _ _ r1
        rw[r2] at hv; cases hv
        intro _
        exact ⟨_,b'in m xs _ hm r1 r2,by simp⟩
      · rename_i h
        exact hle.a1 (a := .own m) (fun hm=>by rw[zaC.2 hm] at h; cases h) ha
    | _=>exact other
  have many:∀ (l:List A1) (vs:List Value),zck (cx C s β w) l vs→zck (cx C ⟨zqX ns s.env,zoo ns s.ents⟩ β' w) (zKX ns l) vs:=by
    intro l
    induction l with
    | nil=>intro vs h; cases vs with | nil=>trivial | cons _ _=>exact h.elim
    | cons b r ih=>intro vs h; cases vs with
      | nil=>exact h.elim
      | cons v vs=>exact ⟨one b v h.1,h.2.1,ih vs h.2.2⟩
  have vok:∀ gg (l:List A1) (v:Value),VOk (cx C s β w) gg l v→VOk (cx C ⟨zqX ns s.env,zoo ns s.ents⟩ β' w) gg (zKX ns l) v:=by
    intro gg l v h
    cases gg with
    | true=>obtain ⟨vs,h1,h2⟩:=h; exact ⟨vs,h1,many _ _ h2⟩
    | false =>
      obtain ⟨b,rfl,h2,h3⟩:=h
      refine ⟨b.und ns,rfl,one b v h2,?_⟩
      rcases h3 with rfl | h3
      · exact .inl rfl
      · exact .inr h3
  have avok:∀ (b:AV) (v:Value),zaR (cx C s β w) b v→zaR (cx C ⟨zqX ns s.env,zoo ns s.ents⟩ β' w) (b.und ns) v:=by
    intro b v h
    cases b with
    | v gg l=>exact vok gg l v h
    | tup ps =>
      obtain ⟨vs,h1,h2⟩:=h
      refine ⟨vs,h1,?_⟩
      clear h1
      generalize vs.toList=l at h2
      induction ps generalizing l with
      | nil=>cases l with | nil=>trivial | cons _ _=>exact h2.elim
      | cons p r ih=>cases l with
        | nil=>exact h2.elim
        | cons v l=>exact ⟨vok _ _ _ h2.1,ih l h2.2⟩
  have entok : ∀ k f u,look k (zoo ns s.ents)=some f→β' k=some u→EntOk (cx C ⟨zqX ns s.env,zoo ns s.ents⟩ β' w) f u:=by
    intro k f u h1 h2
    obtain ⟨hk,e,q1,rfl⟩:=now k f h1
    by_cases hm:k∈ns
    · obtain ⟨xs,sv,r1,r2,r3⟩:=sval k hm
      rw[q1] at r1; cases r1
      rw[b'in k xs sv hm q1 r2] at h2; cases h2
      have hb:zgx k ns=true:=zaC.2 hm
      show EntOk _ (match zgx k ns with
        | true=>Ent.deep false .rat (erL xs)
        | false=>Ent.arr false .trat xs) _
      rw[hb]
      have hlen:(zlb (zd1 β) xs).length=3 * xs.length:=zmg _ xs
      have hids:=zko hid hm q1
      refine ⟨sv,zlb (zd1 β) xs,rfl,by rw[hlen,zfJ,Nat.mul_comm]; rfl,?_,rfl,?_⟩
      · rw[List.flatMap_cons]
        refine List.nodup_append.2 ⟨by obtain ⟨_,_,_,rfl⟩:=isSl _ _ r3; exact zeO (zdD ..),znb _ tokNd tokInj hids,fun a ha b hb e=>?_⟩
        subst e
        obtain ⟨id,i1,i2⟩:=zh7 _ hb
        exact hk (g.uniq k PN _ _ _ _ a q1 hp rfl rfl r2 hpv (zfF ha) (by rw[hpT]; exact tokTop _ a i2))
      · rcases r3 with ⟨z0,ad,z1⟩ | ⟨gb,cap,cur,T,k1,k2,k3,k4,k5,k6,k7⟩
        · subst z0; subst z1; exact .inl ⟨rfl,ad,rfl⟩
        · refine .inr ⟨gb,cap,cur,T,by rw[zfJ]; exact k1,k2,by rw[zfJ]; exact k3,k4,k5,k6,fun i c hc=>?_⟩
          obtain ⟨c0,z1,z2⟩:=zvn xs hc
          obtain ⟨u,hu,hr⟩:=k7 i c0 z1
          have hg:=zrb (zd1 β) z1
          rcases z2 with ⟨b,rfl,rfl⟩ | ⟨k,rfl,rfl⟩
          · exact ⟨u,_,hu,hg,rfl,ziO hr trivial⟩
          · obtain ⟨z3,_⟩:=zAX (x:=cx C s β w) ⟨us,rfl,p2,p3,p4⟩ hpv hr
            refine ⟨u,_,hu,hg,?_,z3.go fun _ _=>rfl⟩
            obtain ⟨fp,hr,_⟩:=hr
            cases hr with
            | tok a len cap _ y1 _ =>
              show (zd1 β (2 * k.id)).getD undef=_
              rw[show zd1 β (2 * k.id)=_ from y1]; rfl
    · rw [b'out k hm] at h2
      have he:=g.ents k e u q1 h2
      have hb:zgx k ns=false:=by
        cases h:zgx k ns with
        | false=>rfl
        | true=>exact absurd (zaC.1 h) hm
      cases e with
      | box l=>obtain ⟨b,vs,T,y1,y2,y3⟩:=he; exact ⟨b,vs,T,y1,y2,many _ _ y3⟩
      | deep fr t xs=>exact EntOk.le hle (e := .deep fr t xs) trivial (fun _ _ _=>rfl) he
      | pool q=>exact zir.go he fun _ _=>rfl
      | arr fr t xs =>
        have hu:(Ent.arr fr t xs).und ns k = .arr fr t xs:=by cases fr<;>cases t<;>simp[Ent.und,hb]
        rw[hu]
        exact EntOk.le hle (e := .arr fr t xs) trivial (fun _ _ _=>rfl) he
  refine ⟨β',by rw[znv]; exact g.len,fun t av hx h=>?_,entok,fun k1 k2 f1 f2 u1 u2 b h1 h2 h3 h4 h5 h6 h7 h8=>?_,fun b h=>g.fresh b (hTop b h),g.kb,g.below,fun k v hpk hl=>?_,g.np,fun k f h=>?_,g.fx,fun π hπ=>by rw[hC] at hπ; cases hπ⟩
  · have h:(zqX ns s.env)[t]? = some av:=h
    rw[zwP] at h
    cases h0:s.env[t]? with
    | none=>rw[h0] at h; cases h
    | some a0=>rw[h0] at h; cases h; exact avok _ _ (g.env t a0 hx h0)
  · obtain ⟨n1,_⟩:=now k1 f1 h1
    obtain ⟨n2,_⟩:=now k2 f2 h2
    rcases own k1 f1 u1 b h1 h3 h5 h7 with ⟨e1,v1,a1,a2,a3,a4⟩ | ⟨m1,c1,xs1,d1,i1,j1,l1⟩<;>rcases own k2 f2 u2 b h2 h4 h6 h8 with ⟨e2,v2,a1',a2',a3',a4'⟩ | ⟨m2,c2,xs2,d2,i2,j2,l2⟩
    · exact g.uniq k1 k2 e1 e2 v1 v2 b a1 a1' a2 a2' a3 a3' a4 a4'
    · exact absurd (g.uniq k1 PN e1 _ v1 _ b a1 hp a2 rfl a3 hpv a4 (by rw[hpT]; exact c2)) n1
    · exact absurd (g.uniq k2 PN e2 _ v2 _ b a1' hp a2' rfl a3' hpv a4' (by rw[hpT]; exact c1)) n2
    · have:=tokInj i1 i2 b l1 l2
      subst this
      exact zkp hid m1 m2 d1 d2 j1 j2
  · have hkn:k ∉ ns:=fun hm=>(hns k hm).1 (g.np k (by rw[hpk]; rfl)).1
    rw[b'out k hkn]
    refine g.pin k v hpk ?_
    have hl:(look k (zoo ns s.ents)).isSome:=hl
    cases h:look k (zoo ns s.ents) with
    | none=>rw[h] at hl; cases hl
    | some f=>obtain ⟨_,e,q,_⟩:=now k f h; rw[q]; rfl
  · obtain ⟨_,e,q,_⟩:=now k f h
    by_cases hm:k∈ns
    · obtain ⟨xs,sv,r1,r2,_⟩:=sval k hm
      rw[b'in k xs sv hm r1 r2]; rfl
    · rw[b'out k hm]; exact g.bs k e q
theorem zD4 {ρ:Type} {b:Bool} {f:Unit→Option ρ} {y:ρ} (h:(zak b).bind f=some y):b=true∧f ()=some y:=by
  cases b with
  | true=>exact ⟨rfl,h⟩
  | false=>cases h
theorem zCe {F:Nat→Option (Array Value→Prop)} {ρ:Type} {E:Env} {f:FuncId} {fn:Func} {code:Code} (hm:P.follows .mixedOrders=true) (hL:zcC P E.lay) (hC:zaj P F E.cons) (hf:P.funcs[f]? = some fn) (hb:fn.body=some code) (sg:Sig) (ht:sg.tup=!(Nat.beq fn.results.toList.length 1))
    (hfree:Bool.and sg.zlk sg.fine=true) (dec:Tys sg.zgF.ks→ρ) (out:ρ→Tys sg.zgF.ks) (hod:∀ y,out (dec y)=y) (run:Tys sg.tin.ks→Option ρ) (hrunE:∀ x,runFT E fn sg dec x=run x)
    (hD:zfW E.plans code=true) (hl:∀ body∈zad code,∀ m,zif (keyOf body) E.loops=some m→zay P F m body):zaw P F f ⟨sg,ρ,run,out⟩:=by
  intro C w bt args x y0 hF hrun g0
  subst hF
  obtain ⟨hfr,hfine⟩:=Bool.and_eq_true_iff.1 hfree
  obtain ⟨hfr1,hfr2⟩:=Bool.and_eq_true_iff.1 hfr
  obtain ⟨fA,fI⟩:=Bool.and_eq_true_iff.1 hfr1
  obtain ⟨fR,fO⟩:=Bool.and_eq_true_iff.1 hfr2
  have hpn:look PN (sg.tin.enc x).ents=none:=zp6 hfine x
  have hpo:∀ y:Tys sg.zgF.ks,look PN (sg.zgF.enc y).ents=none:=fun y=>by
    cases h:look PN (sg.zgF.enc y).ents with
    | none=>rfl
    | some e =>
      obtain ⟨t,ht⟩:=zgn (l:=sg.outs) h
      have h2:=(zyC (zyC hfine).1).2
      rw[zaC.2 (za2 ht)] at h2; cases h2
  have g1:=g0.zNC (tk':=none) (s':=⟨(sg.tin.enc x).env,put PN (.pool 0) (sg.tin.enc x).ents⟩) (β':=upd bt PN (.tuple #[])) rfl hpn (fun k hk=>by rw[za6,if_neg hk]) (fun k hk=>zax _ _ hk)
    (znS fA _) (fun n e h=>znT fI _ n e h) (.inr ⟨by rw[za6,if_pos rfl],upd_same ..⟩) (fun π h=>by cases h)
  have hrun':evalC E code ⟨(sg.tin.enc x).env++List.replicate (fn.ntmps - (sg.tin.enc x).env.length) AV.bot,put PN (.pool 0) (sg.tin.enc x).ents⟩ (fun e s=>match zGt E.lay fn.results.toList e s with
      | some ps=>(zak (zed (zli s.ents (zkV sg.res ps)))).bind fun _=>match zDK sg ps s.ents with
        | some y=>some (dec y)
        | none=>none
      | none=>none)=some y0:=by
    have:runFT E fn sg dec x=some y0:=(hrunE x).trans hrun
    unfold runFT at this; rw[hb] at this; exact this
  refine calls_of_wp hf hb (zdm (C:={ C with tk:=none,w0:=w }) hm hL hC code hD hl (zwG g1 fn.ntmps) rfl hrun' fun e s bt1 a w' g hd hk0=>?_)
  obtain ⟨ps,hps,hid,y,hk,hy⟩:∃ ps,zGt E.lay fn.results.toList e s=some ps∧zed (zli s.ents (zkV sg.res ps))=true∧∃ y,zDK sg ps s.ents=some y∧out y0=y:=by
    have hk0':(match zGt E.lay fn.results.toList e s with
      | some ps=>(zak (zed (zli s.ents (zkV sg.res ps)))).bind fun _=>match zDK sg ps s.ents with
        | some y=>some (dec y)
        | none=>none
      | none=>none)=some y0:=hk0
    split at hk0'
    · rename_i ps hps
      obtain ⟨h1,h2⟩:=zD4 hk0'
      split at h2
      · rename_i y hy; cases h2; exact ⟨ps,hps,h1,y,hy,hod y⟩
      · cases h2
    · cases hk0'
  have fin:resVals E.lay s fn.results.toList=some ps→bodyPost P fn (fun e w'=>∃ vs β',e = .returned (zkI sg.tup vs)∧Kp C.keep w w'∧Gam C (sg.zgF.enc (out y0)) NoX β' vs w') .ret a w':=by
    intro hps
    unfold zDK at hk
    split at hk
    · rename_i hnd hat hpl
      obtain ⟨n,hn⟩:=znh hpl
      obtain ⟨vs,h1,h2⟩:=zoE hL g hps ht
      refine ⟨hd,_,h1,vs.toArray,?_⟩
      have ga:Gam { C with tk:=none,w0:=w } ⟨zk3 ps,s.ents⟩ NoX bt1 vs.toArray w':=g.zB5 (by rw[zgk]; exact h2.length) fun j av v k1 k2=>by
        obtain ⟨p,k3,rfl⟩:=zk2 k1
        obtain ⟨v',k4,k5⟩:=h2.get k3
        rw[k2] at k4; cases k4; exact k5
      obtain ⟨bt2,g2⟩:=ga.undeep hn (zpb hat) (zfc hid)
      obtain ⟨bt3,g3⟩:=g2.zj9 (l:=zrh 0 sg.outs sg.res)
      have g4:=Tm.zpL hk g3
      have hbel:=g4.below
      have g5:Gam { C with tk:=none } (sg.zgF.enc y) NoX _ vs.toArray w':=Gam.zKp (C:={ C with tk:=none }) (w0:=w) g4 (g0.below.trans hbel) g0.fx
      rw[hy]
      refine ⟨_,rfl,hbel,Gam.zNC (C:={ C with tk:=none }) (tk':=C.tk) (s':=sg.zgF.enc y) (β':=fun n=>if n=PN then bt PN else _) g5 rfl (hpo y) (fun _ _=>rfl) (fun k hk=>if_neg hk) (znS fR _) (fun n e h=>znT fO _ n e h) (.inl (hpo y)) fun π hπ=>⟨?_,hpo y⟩⟩
      rw[← (g0.tk π hπ).1]
      funext i
      simp only[zd1,if_true]
    · cases hk
  cases e with
  | normal=>exact fin hps
  | ret=>exact fin hps
  | exit i=>cases hps
end
end Go.Di
open Go.RowKit (Below)
namespace Go.Di
def zib {σ ρ:Type} (f:σ→Option (σ ⊕ ρ)):Nat→σ→Option ρ
  | 0,_=>none
  | n+1,x=>match f x with
    | some (.inl y)=>zib f n y
    | some (.inr r)=>some r
    | none=>none
open Classical in
def whileO {σ ρ:Type} (f:σ→Option (σ ⊕ ρ)) (x:σ):Option ρ :=
  if h:∃ r n,zib f n x=some r then some (Classical.choose h) else none
theorem zrT {σ ρ:Type} {f:σ→Option (σ ⊕ ρ)}:∀ {n m:Nat} {x:σ} {r r':ρ},zib f n x=some r→zib f m x=some r'→r=r'
  | n + 1,m+1,x,r,r',h1,h2=>by
    unfold zib at h1 h2
    cases hf:f x with
    | none=>rw[hf] at h1; cases h1
    | some y =>
      cases y with
      | inl y=>rw[hf] at h1 h2; exact zrT h1 h2
      | inr y=>rw[hf] at h1 h2; cases h1; cases h2; rfl
  | 0,_,_,_,_,h1,_=>by cases h1
  | _+1,0,_,_,_,_,h2=>by cases h2
theorem zdC {σ ρ:Type} {f:σ→Option (σ ⊕ ρ)} {x:σ} {r:ρ}:whileO f x=some r↔∃ n,zib f n x=some r:=by
  unfold whileO
  constructor
  · intro h
    split at h
    · rename_i hh
      cases h
      exact Classical.choose_spec hh
    · cases h
  · rintro ⟨n,h⟩
    have hh:∃ r n,zib f n x=some r:=⟨r,n,h⟩
    rw[dif_pos hh]
    obtain ⟨m,hm⟩:=Classical.choose_spec hh
    rw[zrT hm h]
theorem zbd {σ ρ:Type} {f:σ→Option (σ ⊕ ρ)} {x y:σ} (h:f x=some (.inl y)):whileO f x=whileO f y:=by
  have key:∀ r,whileO f x=some r↔whileO f y=some r:=fun r=>by
    rw[zdC,zdC]
    constructor
    · rintro ⟨n,hn⟩
      cases n with
      | zero=>cases hn
      | succ n=>unfold zib at hn; rw[h] at hn; exact ⟨n,hn⟩
    · rintro ⟨n,hn⟩
      exact ⟨n+1,by unfold zib; rw[h]; exact hn⟩
  cases hy:whileO f y with
  | some r=>exact (key r).2 hy
  | none =>
    cases hx:whileO f x with
    | none=>rfl
    | some r=>rw[(key r).1 hx] at hy; cases hy
theorem zaz {σ ρ:Type} {f:σ→Option (σ ⊕ ρ)} {x:σ} {r:ρ} (h:f x=some (.inr r)):whileO f x=some r :=
  zdC.2 ⟨1,by simp[zib,h]⟩
section
variable {P:Program} {C:Bs} {w w':World} {s s':St} {bt:Nat→Option Value} {tm:Array Value}
def Tm.fit (T:Tm) (ad:List (Pos × Nat × ST)) (s:St):Option (Tys T.ks):=T.zBU (Go.Di.zj9 ad s)
theorem Tm.zwQ {T:Tm} {ad:List (Pos × Nat × ST)} {x:Tys T.ks} (h:T.fit ad s=some x) (g:Gam C s NoX bt tm w):∃ bt',Gam C (T.enc x) NoX bt' tm w:=by
  obtain ⟨bt1,g1⟩:=g.zj9 (l:=ad)
  exact ⟨_,Tm.zpL h g1⟩
end
end Go.Di
open Go.RowKit (Below)
namespace Go.Di
def zOD:Ex→Ex→Bool
  | .normal,.normal=>true
  | .ret,.ret=>true
  | .exit i,.exit j=>Nat.beq i j
  | _,_=>false
theorem zEf {e f:Ex} (h:zOD e f=true):e=f:=by
  cases e<;>cases f<;>first | rfl | (cases h; done) | (rw[Nat.eq_of_beq_eq_true h])
def zcp:List (Ex × Tm × List (Pos × Nat × ST))→Type
  | []=>Empty
  | [p]=>Tys p.2.1.ks
  | p :: q :: r=>Tys p.2.1.ks ⊕ zcp (q :: r)
def fitOut:(l:List (Ex × Tm × List (Pos × Nat × ST)))→Ex→St→Option (zcp l)
  | [],_,_=>none
  | [p],e,s=>match zOD p.1 e with
    | true=>match p.2.1.fit p.2.2 s with
      | some x=>some (x:Tys p.2.1.ks)
      | none=>none
    | false=>none
  | p :: q :: r,e,s=>match zOD p.1 e with
    | true=>match p.2.1.fit p.2.2 s with
      | some x=>some (.inl x:Tys p.2.1.ks ⊕ zcp (q :: r))
      | none=>none
    | false=>match fitOut (q :: r) e s with
      | some y=>some (.inr y:Tys p.2.1.ks ⊕ zcp (q :: r))
      | none=>none
def zri:(l:List (Ex × Tm × List (Pos × Nat × ST)))→zcp l→Ex × St
  | [p],y=>(p.1,p.2.1.enc y)
  | p :: q :: r,y=>match (y:Tys p.2.1.ks ⊕ zcp (q :: r)) with
    | .inl x=>(p.1,p.2.1.enc x)
    | .inr z=>zri (q :: r) z
def zui {β:Type}:(l:List (Ex × Tm × List (Pos × Nat × ST)))→zcp l→(Ex→St→Option β)→Option β
  | [p],y,k=>k p.1 (p.2.1.enc y)
  | p :: q :: r,y,k=>match (y:Tys p.2.1.ks ⊕ zcp (q :: r)) with
    | .inl x=>k p.1 (p.2.1.enc x)
    | .inr z=>zui (q :: r) z k
theorem zoJ {β:Type}:∀ (l:List (Ex × Tm × List (Pos × Nat × ST))) (y:zcp l) (k:Ex→St→Option β),zui l y k=k (zri l y).1 (zri l y).2
  | [],y,_=>nomatch y
  | [p],y,k=>rfl
  | p :: q :: r,y,k=>by
    cases (y:Tys p.2.1.ks ⊕ zcp (q :: r)) with
    | inl x=>rfl
    | inr z=>exact zoJ (q :: r) z k
structure LoopD where
  head:Tm
  hads:List (Pos × Nat × ST)
  outs:List (Ex × Tm × List (Pos × Nat × ST))
def stepL (E:Env) (D:LoopD) (body:Code) (x:Tys D.head.ks):Option (Tys D.head.ks ⊕ zcp D.outs) :=
  evalC E body (D.head.enc x) fun e s=>match e with
    | .normal=>match D.head.fit D.hads s with
      | some y=>some (.inl y)
      | none=>none
    | .exit i=>match fitOut D.outs (.exit i) s with
      | some y=>some (.inr y)
      | none=>none
    | .ret=>match fitOut D.outs .ret s with
      | some y=>some (.inr y)
      | none=>none
def zaT (D:LoopD) (f:Tys D.head.ks→Option (zcp D.outs)):LM where
  ρ:=zcp D.outs
  run s:=match D.head.fit D.hads s with
    | some x=>f x
    | none=>none
  out y:=zri D.outs y
  elim y k:=zui D.outs y k
  elim_eq y k:=zoJ D.outs y k
section
variable {P:Program} {C:Bs} {w w':World} {s s':St} {bt:Nat→Option Value} {tm:Array Value} {E:Env}
theorem znN:∀ {l:List (Ex × Tm × List (Pos × Nat × ST))} {e:Ex} {y:zcp l},fitOut l e s=some y→Gam C s NoX bt tm w→(zri l y).1=e∧∃ bt',Gam C (zri l y).2 NoX bt' tm w
  | [p], e,y,h,g=>by
    have h':(match zOD p.1 e with
      | true=>match p.2.1.fit p.2.2 s with
        | some x=>some (x:Tys p.2.1.ks)
        | none=>none
      | false=>none)=some y:=h
    split at h'
    · rename_i he
      split at h'
      · rename_i x hx
        cases h'
        exact ⟨zEf he,Tm.zwQ hx g⟩
      · cases h'
    · cases h'
  | p :: q :: r,e,y,h,g=>by
    have h':(match zOD p.1 e with
      | true=>match p.2.1.fit p.2.2 s with
        | some x=>some (.inl x:Tys p.2.1.ks ⊕ zcp (q :: r))
        | none=>none
      | false=>match fitOut (q :: r) e s with
        | some y=>some (.inr y:Tys p.2.1.ks ⊕ zcp (q :: r))
        | none=>none)=some y:=h
    split at h'
    · rename_i he
      split at h'
      · rename_i x hx
        cases h'
        exact ⟨zEf he,Tm.zwQ hx g⟩
      · cases h'
    · split at h'
      · rename_i z hz
        cases h'
        exact znN (l:=q :: r) hz g
      · cases h'
  | [],_,_,h,_=>by cases h
theorem loop_ok {F:Nat→Option (Array Value→Prop)} (hm:P.follows .mixedOrders=true) (hL:zcC P E.lay) (hC:zaj P F E.cons) {D:LoopD} {body:Code} {f:Tys D.head.ks→Option (zcp D.outs)} (hD:zfW E.plans body=true)
    (hl:∀ b∈zad body,∀ m,zif (keyOf b) E.loops=some m→zay P F m b) (hf:∀ x y,f x=some y→whileO (stepL E D body) x=some y):zay P F (zaT D f) body:=by
  intro C s bt a w y hF g hd hrun Q hQ
  subst hF
  have hrun':(match D.head.fit D.hads s with
    | some x=>f x
    | none=>none)=some y:=hrun
  cases hx:D.head.fit D.hads s with
  | none=>rw[hx] at hrun'; cases hrun'
  | some x =>
    rw[hx] at hrun'
    obtain ⟨n,hn⟩:=zdC.1 (hf x y hrun')
    obtain ⟨bt0,g0⟩:=Tm.zwQ hx g
    refine wp_loop_ghost (fun n a w=>∃ x bt,Gam C (D.head.enc x) NoX bt a.tmps w∧a.defers=[]∧zib (stepL E D body) n x=some y) n ⟨x,bt0,g0,hd,hn⟩ ?_
    rintro n a w ⟨x,bt,g,hd,hn⟩
    cases n with
    | zero=>cases hn
    | succ n =>
      unfold zib at hn
      cases hz:stepL E D body x with
      | none=>rw[hz] at hn; cases hn
      | some z =>
        rw[hz] at hn
        refine zdm hm hL hC body hD hl g hd hz fun e s' bt' a' w' g' hd' hk=>?_
        cases e with
        | normal =>
          simp only at hk
          split at hk
          · rename_i x' hx'
            cases hk
            obtain ⟨bt2,g2⟩:=Tm.zwQ hx' g'
            exact ⟨n,Nat.lt_succ_self n,x',bt2,g2,hd',hn⟩
          · cases hk
        | exit i =>
          simp only at hk
          split at hk
          · rename_i r hr
            cases hk
            have hy:r=y:=Option.some.inj hn
            subst hy
            obtain ⟨he,bt2,g2⟩:=znN hr g'
            have:=hQ bt2 a' w' g2 hd'
            have he':(zaT D f).out r=zri D.outs r:=rfl
            rw[he',he] at this
            exact this
          · cases hk
        | ret =>
          simp only at hk
          split at hk
          · rename_i r hr
            cases hk
            have hy:r=y:=Option.some.inj hn
            subst hy
            obtain ⟨he,bt2,g2⟩:=znN hr g'
            have:=hQ bt2 a' w' g2 hd'
            have he':(zaT D f).out r=zri D.outs r:=rfl
            rw[he',he] at this
            exact this
          · cases hk
end
end Go.Di
namespace Go.Di
def zQX (P:Program) (E:TypeId) (e:ST):Bool :=
  match P.info? E with
  | some inf=>match inf.zero with
    | some z=>Nat.beq inf.size e.size && (Nat.ble inf.bytes 256 && zOk (zeroOf e) z.cells.toList)
    | none=>false
  | none=>false
def zEe (P:Program) (fd:Field) (off k:Nat) (g:Bool):Bool :=
  match P.info? fd.type,P.underlying fd.type with
  | some inf,some d=>Nat.beq fd.offset off && (Nat.blt 0 k && (Nat.beq inf.size k && (zzZ d==g)))
  | _,_=>false
def zmQ (P:Program):List Field→List (Nat × Nat × Bool)→Bool
  | [],[]=>true
  | fd :: fs,(off,k,g) :: l=>zEe P fd off k g && zmQ P fs l
  | _,_=>false
def isAgg:Value→Bool
  | .agg _=>true
  | _=>false
def zwj (d:TypeDesc):Option CK→Bool
  | some (.int k)=>match d with | .int k'=>zhr k k' | _=>false
  | some .str=>match d with | .string=>true | _=>false
  | some .bool=>match d with | .bool=>true | _=>false
  | some (.sl _)=>true
  | some .nat | some .tok | some .any=>true
  | none=>true
def zKH (P:Program) (d:TypeDesc):Option ST→Bool
  | some e=>match d with | .slice E=>zQX P E e | _=>false
  | none=>true
def byteOk (P:Program) (d:TypeDesc):Option ST→Bool
  | some .byte=>match d with
    | .slice E=>match P.underlying E with
      | some (.int .u8)=>true
      | _=>false
    | _=>false
  | _=>true
def zA4 (P:Program) (d:TypeDesc) (z:Value) (i:TI):Bool :=
  match i.strct with
  | true=>match d with | .struct fs=>isAgg z && zmQ P fs.toList i.fields | _=>false
  | false=>true
def zPZ (P:Program) (t:TypeId) (i:TI):Bool :=
  match P.info? t,P.underlying t with
  | some inf,some d=>match inf.zero with
    | some z=>Nat.beq inf.size i.zero.length && ((zzZ d==i.agg) && (zOk i.zero z.cells.toList && (zA4 P d z i && (zKH P d i.elem && (zwj d i.scal && ((i.agg || Nat.beq i.zero.length 1) && byteOk P d i.elem))))))
    | none=>false
  | _,_=>false
def zLF (P:Program):List (TypeId × TI)→Bool
  | []=>true
  | (t,i) :: r=>zPZ P t i && zLF P r
theorem zME {P:Program} {E:TypeId} {e:ST} (h:zQX P E e=true):zRg P E e:=by
  unfold zQX at h
  split at h
  · rename_i inf hi
    split at h
    · rename_i z hz
      simp only[Bool.and_eq_true] at h
      exact ⟨inf,z,hi,Nat.eq_of_beq_eq_true h.1,Nat.le_of_ble_eq_true h.2.1,hz,h.2.2⟩
    · cases h
  · cases h
theorem znO {P:Program}:∀ {fs:List Field} {l:List (Nat × Nat × Bool)},zmQ P fs l=true→zhV P fs l
  | [],[],_=>trivial
  | fd :: fs,(off,k,g) :: l,h=>by
    simp only[zmQ,Bool.and_eq_true] at h
    refine ⟨?_,znO h.2⟩
    have h1:=h.1
    unfold zEe at h1
    split at h1
    · rename_i inf d hi hd
      simp only[Bool.and_eq_true,beq_iff_eq] at h1
      exact ⟨Nat.eq_of_beq_eq_true h1.1,Nat.le_of_ble_eq_true h1.2.1,inf,d,hi,Nat.eq_of_beq_eq_true h1.2.2.1,hd,h1.2.2.2⟩
    · cases h1
  | [],_ :: _,h=>by cases h
  | _ :: _,[],h=>by cases h
theorem tiOk_ok {P:Program} {t:TypeId} {i:TI} (h:zPZ P t i=true):zg1 P t i:=by
  unfold zPZ at h
  split at h
  · rename_i inf d hi hd
    split at h
    · rename_i z hz
      simp only[Bool.and_eq_true,beq_iff_eq,Bool.or_eq_true] at h
      obtain ⟨h1,h2,h3,h4,h5,h6,h7,h8⟩:=h
      refine ⟨inf,d,z,hi,hd,Nat.eq_of_beq_eq_true h1,h2,hz,h3,fun hs=>?_,fun e he=>?_,fun k hk=>?_,fun hk=>?_,fun hk=>?_,fun ha=>?_,fun he=>?_⟩
      · unfold zA4 at h4
        rw[hs] at h4
        simp only at h4
        split at h4
        · rename_i fs
          simp only[Bool.and_eq_true] at h4
          refine ⟨fs,rfl,?_,znO h4.2⟩
          have:=h4.1
          cases z<;>first | (cases this; done) | rfl
        · cases h4
      · rw[he] at h5
        simp only[zKH] at h5
        split at h5
        · exact ⟨_,rfl,zME h5⟩
        · cases h5
      · rw[hk] at h6
        simp only[zwj] at h6
        split at h6
        · rw[zgQ h6]
        · cases h6
      · rw[hk] at h6
        simp only[zwj] at h6
        split at h6
        · rfl
        · cases h6
      · rw[hk] at h6
        simp only[zwj] at h6
        split at h6
        · rfl
        · cases h6
      · rw[ha] at h7; exact Nat.eq_of_beq_eq_true (by simpa using h7)
      · rw [he] at h8
        unfold byteOk at h8
        split at h8
        · split at h8
          · split at h8
            · rename_i E _ hE
              exact ⟨E,rfl,hE⟩
            · cases h8
          · cases h8
        · rename_i hne
          exact absurd rfl hne
    · cases h
  · cases h
theorem zmK {P:Program}:∀ {lay:List (TypeId × TI)},zLF P lay=true→zcC P lay
  | [],_,t,i,h=>by cases h
  | (u,j) :: r,hl,t,i,h=>by
    simp only[zLF,Bool.and_eq_true] at hl
    unfold zcm at h
    split at h
    · rename_i hb
      cases h
      rw[Nat.eq_of_beq_eq_true hb]; exact tiOk_ok hl.1
    · exact zmK hl.2 t i h
end Go.Di
open Go.RowKit (Below)
namespace Go.Di
/-! ### What a reading says of the data: the integers fit,nothing is too long -/
def zKD (xs:List Int):Prop:=xs.length≤maxLen∧∀ n∈xs,(Lit.int .i64 n).wf=true
def Rt.wf (r:Rt):Prop:=zKD r.mag∧zKD r.den
def ST.wf:(t:ST)→t.El→Prop
  | .int,n=>(Lit.int .i64 n).wf=true
  | .byte,n=>(Lit.int .u8 n).wf=true
  | .str,s=>s.size≤maxLen
  | .rat,r=>r.wf
  | .sta,s=>s.name.size≤maxLen∧s.x.wf∧s.y.wf
  | .obs,o=>((Lit.int .i64 o.kind).wf=true∧(Lit.int .i64 o.frm).wf=true∧(Lit.int .i64 o.to).wf=true)∧o.value.wf∧o.variance.wf
  | .rats,l=>(show List Rt from l).length≤maxLen∧∀ r∈(show List Rt from l),Rt.wf r
  | .trat,_=>True
def CK.wf:(c:CK)→c.ty→Prop
  | .int k,n=>(Lit.int k n).wf=true
  | .bool,_=>True
  | .str,s=>s.size≤maxLen
  | .sl t,xs=>(show List t.El from xs).length≤maxLen∧∀ x∈(show List t.El from xs),t.wf x
  | .nat,_ | .tok,_ | .any,_=>True
def Tys.wf:(cs:List CK)→Tys cs→Prop
  | [],_=>True
  | c :: cs,x=>c.wf x.1∧Tys.wf cs x.2
theorem ST.zPW (t:ST) (x:Tys t.kinds) (h:Tys.wf t.kinds x):t.wf (t.mk x):=by
  cases t with
  | int=>exact h.1
  | byte=>exact h.1
  | str=>exact h.1
  | rat=>exact ⟨h.2.1,h.2.2.1⟩
  | sta=>exact ⟨h.1,⟨h.2.2.1,h.2.2.2.1⟩,h.2.2.2.2.2.1,h.2.2.2.2.2.2.1⟩
  | obs=>exact ⟨⟨h.1,h.2.1,h.2.2.1⟩,⟨h.2.2.2.2.1,h.2.2.2.2.2.1⟩,h.2.2.2.2.2.2.2.1,h.2.2.2.2.2.2.2.2.1⟩
  | rats=>exact h.1
  | trat=>trivial
theorem ST.ze5 (t:ST) (x:Tys t.kinds):t.cells (t.mk x)=Tys.cells t.kinds x:=by cases t<;>rfl
theorem Tys.zAU:∀ {cs ds:List CK} {x:Tys cs} {y:Tys ds},Tys.wf cs x→Tys.wf ds y→Tys.wf (cs++ds) (Tys.app cs ds x y)
  | [],_,_,_,_,h=>h
  | _ :: cs,_ds,_x,_y,h,k=>⟨h.1,Tys.zAU (cs:=cs) h.2 k⟩
theorem Tys.zsG:∀ (cs ds:List CK) (x:Tys cs) (y:Tys ds),Tys.cells (cs++ds) (Tys.app cs ds x y)=Tys.cells cs x++Tys.cells ds y
  | [],_,_,_=>rfl
  | c :: cs,ds,x,y=>congrArg (c.cell x.1 :: ·) (Tys.zsG cs ds x.2 y)
theorem zmn:∀ (a b:List Cell),zbQ (a++b)=zbQ a++zbQ b
  | [],_=>rfl
  | c :: a,b=>congrArg (A1.d c :: ·) (zmn a b)
theorem zwW:∀ (l:List Cell) (j:Nat),(zbQ l)[j]? = (l[j]?).map A1.d
  | [],j=>by simp[zbQ]
  | c :: l,0=>by simp[zbQ]
  | c :: l,j+1=>by simpa [zbQ] using zwW l j
/-! ### Kinds of a type -/
def zOL:CK→CK→Bool
  | .int k,.int k'=>zhr k k'
  | .bool,.bool=>true
  | .str,.str=>true
  | .sl t,.sl u=>ST.eqb t u
  | _,_=>false
def zGN:List CK→List CK→Bool
  | [],[]=>true
  | c :: cs,d :: ds=>match zOL c d with
    | true=>zGN cs ds
    | false=>false
  | _,_=>false
theorem zHT {c d:CK} (h:zOL c d=true):c=d:=by
  cases c<;>cases d<;>first | rfl | (cases h; done) | skip
  · rw[zgQ h]
  · rename_i t u
    cases t<;>cases u<;>first | rfl | (cases h; done)
theorem zwD:∀ {cs ds:List CK},zGN cs ds=true→cs=ds
  | [],[],_=>rfl
  | c :: cs,d :: ds,h=>by
    unfold zGN at h
    split at h
    · rename_i h1; rw[zHT h1,zwD h]
    · cases h
  | [],_ :: _,h=>by cases h
  | _ :: _,[],h=>by cases h
def zPK (ks:List CK):List ST→Option ST
  | []=>none
  | t :: r=>match zGN t.kinds ks with
    | true=>some t
    | false=>zPK ks r
def zQ9 (ks:List CK):Option ST:=zPK ks [.int,.byte,.str,.rat,.sta,.obs,.rats]
theorem zA5 {ks:List CK} {t:ST}:∀ {l:List ST},zPK ks l=some t→t.kinds=ks
  | [],h=>by cases h
  | u :: r,h=>by
    unfold zPK at h
    split at h
    · rename_i h1; cases h; exact zwD h1
    · exact zA5 h
theorem zLb {ks:List CK} {t:ST} (h:zQ9 ks=some t):t.kinds=ks:=zA5 h
def fieldsK (P:Program) (f:TypeId→Option (List CK)):Nat→Nat→List Field→Option (List CK)
  | off,total,[]=>match Nat.beq off total with
    | true=>some []
    | false=>none
  | off,total,d :: fs=>match Nat.beq d.offset off,f d.type with
    | true,some ks=>match Nat.beq ks.length (P.cellsOf d.type),fieldsK P f (off+ks.length) total fs with
      | true,some r=>some (ks++r)
      | _,_=>none
    | _,_=>none
def tyK (P : Program):Nat→TypeId→Option (List CK)
  | 0,_=>none
  | n + 1, t=>match P.underlying t with
    | some .bool=>some [.bool]
    | some (.int k)=>some [.int k]
    | some .string=>some [.str]
    | some (.slice e)=>match tyK P n e with
      | some ks=>match zQ9 ks with
        | some st=>match Nat.beq (P.cellsOf e) st.size with
          | true=>some [.sl st]
          | false=>none
        | none=>none
      | none=>none
    | some (.struct fs)=>fieldsK P (tyK P n) 0 (P.cellsOf t) fs.toList
    | _=>none
section
variable {H:Type} {enc:TypeId × Value→H} {P:Program} {w:World} {base:Nat} {spare:Nat→Bool} {held:Bool}
def zfh (w:World):Cx:=zin w (fun _=>none) fun _=>True
theorem ziY {fp:List Nat} (h:∀ b∈fp,b < w.heap.size):(zfh w).fine fp :=
  fun b hb=>⟨h b hb,(by rintro ⟨n,e,v,h1,_⟩; cases h1),trivial⟩
theorem zzH {t:ST} {xs:List t.El} {k:Nat} {c:Cell} (h:(flat t xs)[k]? = some c):∃ i j x,k=i * t.size+j∧j < t.size∧i < xs.length∧xs[i]? = some x∧(t.cells x)[j]? = some c:=by
  have hp:=size_pos t
  have hlt:k < xs.length * t.size:=by rw[← zaD]; exact (List.getElem?_eq_some_iff.1 h).1
  have hi:k / t.size < xs.length:=Nat.div_lt_of_lt_mul (by rw[Nat.mul_comm]; exact hlt)
  have hk:k=k / t.size * t.size+k % t.size:=by rw[Nat.mul_comm]; exact (Nat.div_add_mod k t.size).symm
  have hj:=Nat.mod_lt k hp
  refine ⟨k / t.size,k % t.size,xs[k / t.size],hk,hj,hi,by simp[hi],?_⟩
  rw[← flat_get t xs (k / t.size) _ (k % t.size) (by simp[hi]) hj,← hk]
  exact h
theorem zEM {a:Addr} {n:Nat} {cs:List Value} (h:w.cells? base a n=some cs):cs.length=n∧∀ j,j < n→w.cell? (a.add j)=cs[j]? := by
  unfold World.cells? at h
  split at h
  · have hl:=mapM_some_length h
    refine ⟨by simpa using hl,fun j hj=>?_⟩
    have:=mapM_some_get h j j (by simp[hj])
    simpa using this
  · cases h
theorem addr_add {a:Addr} (h:a.spot=none) (n:Nat):a.add n=⟨a.block,a.off+n,none⟩:=by
  unfold Addr.add
  split
  · subst_vars; cases a; simp_all
  · rfl
theorem cell_spot {a:Addr} {v:Value} (h:w.cell? a=some v):a.spot=none∧a.block < w.heap.size:=by
  unfold World.cell? at h
  split at h
  · rename_i c T fr hc
    split at h
    · cases h
    · rename_i hs
      refine ⟨by cases hx:a.spot<;>simp_all,(Array.getElem?_eq_some_iff.1 hc).1⟩
  · cases h
theorem fieldsK_ok {n m:Nat} {cs:List Value} {total:Nat} (hlen:cs.length=total) (ih:∀ (t:TypeId) (cs:List Value) (x:DataW H × List MemPlace) (ks:List CK),DataW.trod enc P w base spare held m t cs=some x→tyK P n t=some ks→∃ y:Tys ks,zck (zfh w) (zbQ (Tys.cells ks y)) cs∧Tys.wf ks y) :
    ∀ (fs:List Field) (off:Nat) (ks:List CK),fieldsK P (tyK P n) off total fs=some ks→(∀ (i:Nat) (f:Field),fs[i]? = some f→∃ x,DataW.trod enc P w base spare held m f.type ((cs.drop f.offset).take (P.cellsOf f.type))=some x) →
      ∃ y:Tys ks,zck (zfh w) (zbQ (Tys.cells ks y)) (cs.drop off)∧Tys.wf ks y
  | [],off,ks,h,_=>by
    unfold fieldsK at h
    split at h
    · rename_i hb
      cases h
      have:off=total:=Nat.eq_of_beq_eq_true hb
      refine ⟨(),?_,trivial⟩
      rw[List.drop_of_length_le (by omega)]; trivial
    · cases h
  | d :: fs,off,ks,h,hx=>by
    unfold fieldsK at h
    split at h
    · rename_i ks1 hb hk
      split at h
      · rename_i r hl hr
        cases h
        have ho:d.offset=off:=Nat.eq_of_beq_eq_true hb
        have hn:ks1.length=P.cellsOf d.type:=Nat.eq_of_beq_eq_true hl
        obtain ⟨x,hx0⟩:=hx 0 d rfl
        obtain ⟨y,q1,q2⟩:=ih d.type _ x ks1 hx0 hk
        obtain ⟨z,q3,q4⟩:=fieldsK_ok hlen ih fs (off+ks1.length) r hr (fun i f hf=>hx (i+1) f (by simpa using hf))
        refine ⟨Tys.app ks1 r y z,?_,Tys.zAU q2 q4⟩
        rw[Tys.zsG,zmn]
        have e:cs.drop off=(cs.drop d.offset).take (P.cellsOf d.type)++cs.drop (off+ks1.length):=by
          rw[ho,hn,← List.drop_drop,List.take_append_drop]
        rw[e]
        exact q1.append q3
      · cases h
    · cases h
theorem tyK_ok : ∀ (n:Nat) (t:TypeId) (m:Nat) (cs:List Value) (x:DataW H × List MemPlace) (ks:List CK),DataW.trod enc P w base spare held m t cs=some x→tyK P n t=some ks →
    ∃ y:Tys ks,zck (zfh w) (zbQ (Tys.cells ks y)) cs∧Tys.wf ks y
  | 0,t,m,cs,x,ks,h,hk=>by cases hk
  | n + 1, t, m, cs, x,ks,h,hk=>by
    unfold tyK at hk
    split at hk
    · rename_i ht
      cases hk
      obtain ⟨b,rfl,_⟩:=DataW.trod_bool ht h
      exact ⟨(b,()),⟨⟨[],.bool b,ziY (by intro b hb; cases hb)⟩,rfl,trivial⟩,trivial,trivial⟩
    · rename_i k ht
      cases hk
      obtain ⟨m,rfl,_,hw⟩:=DataW.trod_int ht h
      exact ⟨(m,()),⟨⟨[],.int k m,ziY (by intro b hb; cases hb)⟩,rfl,trivial⟩,hw,trivial⟩
    · rename_i ht
      cases hk
      obtain ⟨s,rfl,_,hw⟩:=DataW.trod_string ht h
      exact ⟨(s,()),⟨⟨[],.str s,ziY (by intro b hb; cases hb)⟩,rfl,trivial⟩,hw,trivial⟩
    · rename_i e ht
      split at hk
      · rename_i ks1 hk1
        split at hk
        · rename_i st hst
          split at hk
          · rename_i hsz
            cases hk
            have hks:=zLb hst
            subst hks
            have hsz:=Nat.eq_of_beq_eq_true hsz
            rcases DataW.trod_slice ht h with ⟨rfl,_⟩ | ⟨a,len,cap,elems,rest,m',hm,rfl,_,hb,hl,hc,hlen,hel,_,_⟩
            · exact ⟨(([]:List st.El),()),⟨⟨[],.emp none st 0,ziY (by intro b hb; cases hb)⟩,rfl,trivial⟩,⟨Nat.zero_le _,by intro x hx; cases hx⟩,trivial⟩
            · cases hm
              have each:∀ i,∃ y:st.El,i < len→∃ ci,w.cells? base (a.add (i * P.cellsOf e)) (P.cellsOf e)=some ci∧zck (zfh w) (zbQ (st.cells y)) ci∧st.wf y:=by
                intro i
                by_cases hi:i < len
                · have h1:=hel i hi
                  have h2:elems[i]? = some (elems[i]'(by omega)):=by simp
                  rw[h2,Option.bind_eq_some_iff] at h1
                  obtain ⟨ci,h3,h4⟩:=h1
                  obtain ⟨y,q1,q2⟩:=tyK_ok n e _ ci _ _ h4 hk1
                  exact ⟨st.mk y,fun _=>⟨ci,h3,by rw[ST.ze5]; exact q1,ST.zPW st y q2⟩⟩
                · have:Nonempty st.El:=by cases st<;>first | exact ⟨(0:Int)⟩ | exact ⟨ByteArray.empty⟩ | exact ⟨(⟨false,[],[]⟩:Rt)⟩ | exact ⟨(⟨ByteArray.empty,⟨false,[],[]⟩,⟨false,[],[]⟩,false⟩:Sta)⟩ | exact ⟨(⟨0,0,0,⟨false,[],[]⟩,⟨false,[],[]⟩⟩:Obs)⟩ | exact ⟨([]:List Rt)⟩ | exact ⟨(⟨false,⟨0,[]⟩,⟨0,[]⟩⟩:TRt)⟩
                  exact ⟨Classical.choice this,fun h=>absurd h hi⟩
              let f:Nat→st.El:=fun i=>Classical.choose (each i)
              have hf:∀ i,i < len→∃ ci,w.cells? base (a.add (i * P.cellsOf e)) (P.cellsOf e)=some ci∧zck (zfh w) (zbQ (st.cells (f i))) ci∧st.wf (f i):=fun i=>Classical.choose_spec (each i)
              let xs:List st.El:=(List.range len).map f
              have hxl:xs.length=len:=by simp[xs]
              have hxi:∀ i x,xs[i]? = some x→i < len∧x=f i:=by
                intro i x hx
                have hi:i < len:=by rw[← hxl]; exact (List.getElem?_eq_some_iff.1 hx).1
                simp[xs,hi] at hx
                exact ⟨hi,hx.symm⟩
              have hwf:CK.wf (.sl st) xs:=⟨by show xs.length≤maxLen; omega,fun x hx=>by
                obtain ⟨i,hi⟩:=List.getElem?_of_mem hx
                obtain ⟨h1,rfl⟩:=hxi i x hi
                obtain ⟨_,_,_,h2⟩:=hf i h1; exact h2⟩
              refine ⟨(xs,()),⟨?_,rfl,trivial⟩,hwf,trivial⟩
              by_cases hz:len=0
              · subst hz
                have:xs=[]:=rfl
                rw[this]
                exact ⟨[],.emp (some a) st cap,ziY (by intro b hb; cases hb)⟩
              · have hpos:=size_pos st
                have hcell:∀ i j,i < len→j < st.size→∃ v c,w.cell? ((a.add (i * st.size)).add j)=some v∧(st.cells (f i))[j]? = some c∧(zfh w).rd v c:=by
                  intro i j hi hj
                  obtain ⟨ci,h1,h2,_⟩:=hf i hi
                  obtain ⟨h3,h4⟩:=zEM h1
                  rw[hsz] at h3 h4
                  have hcj:j < (st.cells (f i)).length:=by rw[zao]; exact hj
                  have h5:(zbQ (st.cells (f i)))[j]? = some (.d ((st.cells (f i))[j])):=by rw[zwW]; simp[hcj]
                  obtain ⟨v,h6,h7,_⟩:=h2.get h5
                  exact ⟨v,_,by rw[← hsz] at h4 ⊢; rw[h4 j (by omega)]; exact h6,by simp[hcj],h7⟩
                obtain ⟨v0,_,h0,_⟩:=hcell 0 0 (by omega) hpos
                have hsp:a.spot=none∧a.block < w.heap.size:=by
                  have:(a.add (0 * st.size)).add 0=a:=by simp[Addr.add]
                  rw[this] at h0; exact cell_spot h0
                have hcell':∀ k c,(flat st xs)[k]? = some c→∃ v,w.cell? ⟨a.block,a.off+k,none⟩=some v∧(zfh w).rd v c:=by
                  intro k c hk
                  obtain ⟨i,j,x,rfl,hj,hi,hx,hc⟩:=zzH hk
                  obtain ⟨hi',rfl⟩:=hxi i x hx
                  obtain ⟨v,c',q1,q2,q3⟩:=hcell i j hi' hj
                  rw[hc] at q2; cases q2
                  rw[addr_add hsp.1,addr_add rfl,Nat.add_assoc] at q1
                  exact ⟨v,q1,q3⟩
                have hch:∀ k:Nat,∃ p:Value × List Nat,∀ c:Cell,(flat st xs)[k]? = some c→w.cell? ⟨a.block,a.off+k,none⟩=some p.1∧Rd w (zd1 fun _=>none) p.1 c p.2∧(zfh w).fine p.2:=by
                  intro k
                  cases hk:(flat st xs)[k]? with
                  | none=>exact ⟨(undef,[]),fun c hc=>by cases hc⟩
                  | some c =>
                    obtain ⟨v,h1,fp,h2,h3⟩:=hcell' k c hk
                    exact ⟨(v,fp),fun c' hc'=>by cases hc'; exact ⟨h1,h2,h3⟩⟩
                let g:Nat→Value × List Nat:=fun k=>Classical.choose (hch k)
                have hg:∀ k c,(flat st xs)[k]? = some c→w.cell? ⟨a.block,a.off+k,none⟩=some (g k).1∧Rd w (zd1 fun _=>none) (g k).1 c (g k).2∧(zfh w).fine (g k).2:=fun k=>Classical.choose_spec (hch k)
                have ha:a=⟨a.block,a.off,none⟩:=by cases a; simp_all
                refine ⟨a.block :: (List.range (flat st xs).length).flatMap (fun k=>(g k).2),?_,ziY ?_⟩
                · rw[ha]
                  exact .sl a.block a.off len cap st xs (fun k=>(g k).1) (fun k=>(g k).2) hxl.symm hl (fun k c hk=>(hg k c hk).1) (fun k c hk=>(hg k c hk).2.1)
                · intro b hb
                  rcases List.mem_cons.1 hb with rfl | hb
                  · exact hsp.2
                  · obtain ⟨k,hk,hb⟩:=List.mem_flatMap.1 hb
                    have hk':=List.mem_range.1 hk
                    exact ((hg k _ (List.getElem?_eq_getElem hk')).2.2 b hb).1
          · cases hk
        · cases hk
      · cases hk
    · rename_i fs ht
      obtain ⟨xs,m',rfl,_,hl,hxl,hx⟩:=DataW.trod_struct ht h
      have:=fieldsK_ok (n:=n) (cs:=cs) (total:=P.cellsOf t) hl (fun t cs x ks=>tyK_ok n t m' cs x ks) fs.toList 0 ks hk (fun i f hf=>by
        have hf':fs[i]? = some f:=by simpa using hf
        have hi:i < xs.length:=by rw[hxl]; exact (Array.getElem?_eq_some_iff.1 hf').1
        exact ⟨xs[i],by rw[hx i f hf']; simp⟩)
      simpa using this
    · cases hk
end
end Go.Di
open Go.RowKit (Below)
namespace Go.Di
open Go.WideShapes Go.ChangeShapes Go.RowKit
def parKs (P:Program):List TypeId→Option (List (Bool × List CK))
  | []=>some []
  | t :: ts=>match P.underlying t,tyK P 12 t with
    | some d,some ks=>match parKs P ts with
      | some r=>some ((zzZ d,ks) :: r)
      | none=>none
    | _,_=>none
def insOf:List (Bool × List CK)→List CK
  | []=>[]
  | (_,ks) :: r=>ks++insOf r
def zzY (ar:List (Bool × List CK)):List (Bool × List C1T):=ar.map fun p=>(p.1,p.2.map C1T.d)
def toD:(ks:List CK)→Tys ks→Tys (ksL (ks.map C1T.d))
  | [],_=>()
  | _ :: cs,x=>(x.1,toD cs x.2)
theorem zwT:∀ (ks:List CK) (x:Tys ks),encL (ks.map C1T.d) (toD ks x)=zbQ (Tys.cells ks x)
  | [],_=>rfl
  | c :: cs,x=>congrArg (A1.d (c.cell x.1) :: ·) (zwT cs x.2)
def zKE:(ar:List (Bool × List CK))→Tys (insOf ar)→Tys (ksS ((zzY ar).map some))
  | [],_=>()
  | (_,ks) :: r,x=>Tys.app (ksL (ks.map C1T.d)) (ksS ((zzY r).map some)) (toD ks (Tys.fst ks (insOf r) x)) (zKE r (Tys.snd ks (insOf r) x))
def zhR:(ar:List (Bool × List CK))→Tys (insOf ar)→List (Bool × List A1)
  | [],_=>[]
  | (b,ks) :: r,x=>(b,zbQ (Tys.cells ks (Tys.fst ks (insOf r) x))) :: zhR r (Tys.snd ks (insOf r) x)
theorem zse:∀ (ar:List (Bool × List CK)) (x:Tys (insOf ar)),encS ((zzY ar).map some) (zKE ar x)=zk3 (zhR ar x)
  | [],_=>rfl
  | (b,ks) :: r,x=>by
    show AV.v b (encL (ks.map C1T.d) (Tys.fst _ _ (Tys.app (ksL (ks.map C1T.d)) (ksS ((zzY r).map some)) (toD ks (Tys.fst ks (insOf r) x)) (zKE r (Tys.snd ks (insOf r) x))))) ::
      encS ((zzY r).map some) (Tys.snd _ _ (Tys.app (ksL (ks.map C1T.d)) (ksS ((zzY r).map some)) (toD ks (Tys.fst ks (insOf r) x)) (zKE r (Tys.snd ks (insOf r) x))))=_
    rw[zgB,zgA,zwT,zse r]; rfl
def zrS (ar:List (Bool × List CK)):Sig:=⟨zzY ar,[],false,[(false,[.d .bool])],[]⟩
def noE:Tys (ksE []):=()
def zLH (ar:List (Bool × List CK)) (x:Tys (insOf ar)):Tys (zrS ar).tin.ks:=Tys.app (ksS ((zzY ar).map some)) (ksE []) (zKE ar x) noE
section
variable {H:Type} {enc:TypeId × Value→H} {P:Program} {w:World} {base:Nat} {spare:Nat→Bool} {held:Bool}
theorem val_ok {n b0:Nat} {t:TypeId} {v:Value} {d:TypeDesc} {ks:List CK} {x:DataW H} {ps:List MemPlace} (ht:P.underlying t=some d) (hk:tyK P n t=some ks) (ho:Value.okWide P w .any b0 t v)
    (hd:DataW.Trod enc P w base spare held t v x ps):∃ y:Tys ks,VOk (zfh w) (zzZ d) (zbQ (Tys.cells ks y)) v∧Tys.wf ks y:=by
  obtain ⟨m,hm⟩:=hd
  obtain ⟨y,h1,h2⟩:=tyK_ok n t m _ _ ks hm hk
  refine ⟨y,?_,h2⟩
  have one:v.oneCell'=true→VOk (zfh w) false (zbQ (Tys.cells ks y)) v:=by
    intro h
    have hc:v.cells=#[v]:=by cases v<;>first | rfl | (simp[Value.oneCell'] at h)
    rw[hc] at h1
    obtain ⟨a,e1,e2,e3⟩:=zv2 h1
    exact ⟨a,e1,e2,.inr h⟩
  cases n with
  | zero=>cases hk
  | succ n =>
    unfold tyK at hk
    rw[ht] at hk
    cases d with
    | bool=>obtain ⟨b,rfl⟩:=okWide_bool ht ho; exact one rfl
    | int k=>obtain ⟨b,rfl⟩:=okWide_int ht ho; exact one rfl
    | string=>obtain ⟨b,rfl⟩:=okWide_string ht ho; exact one rfl
    | slice e=>obtain ⟨a,l,c,rfl⟩:=okWide_slice ht ho; exact one rfl
    | struct fs =>
      unfold Value.okWide at ho
      rw[ht] at ho
      obtain ⟨cs,rfl,_,_⟩:=ho
      exact ⟨cs,rfl,h1⟩
    | _=>cases hk
theorem zsX {b0:Nat}:∀ {ts:List TypeId} {vs:List Value} {ds:List (DataW H)} {ps:List MemPlace} {ar:List (Bool × List CK)},parKs P ts=some ar→DataW.TrodAll enc P w base spare held ts vs ds ps →
    (∀ (j:Nat) t v,ts[j]? = some t→vs[j]? = some v→Value.okWide P w .any b0 t v)→∃ y:Tys (insOf ar),zk7 (zfh w) (zhR ar y) vs∧Tys.wf (insOf ar) y∧ds.length=ts.length
  | [],[],[],ps,ar,h,_,_=>by cases h; exact ⟨(),trivial,trivial,rfl⟩
  | t :: ts,v :: vs,d :: ds,ps,ar,h,⟨p,q,h1,h2,_⟩,ho=>by
    unfold parKs at h
    split at h
    · rename_i de ks hde hks
      split at h
      · rename_i r hr
        cases h
        obtain ⟨y,q1,q2⟩:=val_ok hde hks (ho 0 t v rfl rfl) h1
        obtain ⟨z,q3,q4,q5⟩:=zsX hr h2 fun j t v e1 e2=>ho (j+1) t v (by simpa using e1) (by simpa using e2)
        refine ⟨Tys.app ks (insOf r) y z,?_,Tys.zAU q2 q4,by simp[q5]⟩
        show VOk (zfh w) (zzZ de) (zbQ (Tys.cells ks (Tys.fst ks (insOf r) (Tys.app ks (insOf r) y z)))) v∧zk7 (zfh w) (zhR r (Tys.snd ks (insOf r) (Tys.app ks (insOf r) y z))) vs
        rw[zgB,zgA]
        exact ⟨q1,q3⟩
      · cases h
    · cases h
  | [],_ :: _,_,_,_,_,h,_=>h.elim
  | [],[],_ :: _,_,_,_,h,_=>h.elim
  | _ :: _,[],_,_,_,_,h,_=>h.elim
  | _ :: _,_ :: _,[],_,_,_,h,_=>h.elim
theorem zmc {sp':Nat→Bool} (hl:laidOutB P=true) {W W':World}:∀ {ts:List TypeId} {vs:List Value} {ds:List (DataW H)} {ps:List MemPlace},(ts.all fun t=>P.readableRec t && Nat.blt t P.types.size)=true →
    DataW.TrodAll enc P W base (fun _=>true) true ts vs ds ps→(∀ p∈ps,W.sameAt W' p)→(∀ p∈ps,sp' p.block=true)→DataW.TrodAll enc P W' base sp' true ts vs ds ps
  | [],[],[],ps,_,h,_,_=>h
  | t :: ts,v :: vs,d :: ds,ps,hr,⟨p,q,h1,h2,e⟩,hs,hp=>by
    subst e
    simp only[List.all_cons,Bool.and_eq_true] at hr
    exact ⟨p,q,WideElems.Trod_stays hl hr.1.1 (Nat.le_of_ble_eq_true hr.1.2) h1 (fun x hx=>hs x (List.mem_append_left _ hx)) (fun x hx=>hp x (List.mem_append_left _ hx)),
      zmc hl hr.2 h2 (fun x hx=>hs x (List.mem_append_right _ hx)) (fun x hx=>hp x (List.mem_append_right _ hx)),rfl⟩
  | [],_ :: _,_,_,_,h,_,_=>h.elim
  | [],[],_ :: _,_,_,h,_,_=>h.elim
  | _ :: _,[],_,_,_,h,_,_=>h.elim
  | _ :: _,_ :: _,[],_,_,h,_,_=>h.elim
def zMY (F:Nat→Option (Array Value→Prop)) (w:World):Prop:=∀ b p,F b=some p→∃ cs t fr,w.heap[b]? = some (.cells cs t fr)∧p cs
def zNV:Nat→Option (Array Value→Prop):=fun _=>none
theorem noFix_in {w:World}:zMY zNV w:=fun _ _ h=>by cases h
theorem zLG {F:Nat→Option (Array Value→Prop)} (hF:zMY F w) {ar:List (Bool × List CK)} {y:Tys (insOf ar)} {args:Array Value} (h:zk7 (zfh w) (zhR ar y) args.toList) :
    Gam ⟨fun b=>b < w.heap.size,w,fun _=>True,fun _=>none,F,fun _=>True,none⟩ ((zrS ar).tin.enc (zLH ar y)) NoX (fun _=>none) args w:=by
  have he:(zrS ar).tin.enc (zLH ar y)=⟨zk3 (zhR ar y),[]⟩:=by
    have h1:Tys.fst (ksS ((zzY ar).map some)) (ksE []) (Tys.app (ksS ((zzY ar).map some)) (ksE []) (zKE ar y) noE)=zKE ar y:=zgB _ _ _ _
    show St.mk (encS ((zzY ar).map some) (Tys.fst (ksS ((zzY ar).map some)) (ksE []) (Tys.app (ksS ((zzY ar).map some)) (ksE []) (zKE ar y) noE))) []=_
    rw[h1,zse]
  rw[he]
  refine ⟨by rw[zgk,h.length]; simp,fun t av _ ht=>?_,fun m e v h1 _=>(by cases h1),fun m k e f u v b h1=>(by cases h1),fun b hb=>(by obtain ⟨m,e,v,h1,_⟩:=hb; cases h1),fun _ h=>h,Kp.refl _ _,fun n v hp=>(by cases hp),fun n hn=>(by cases hn),fun n e h1=>(by cases h1),fun b p hp=>by
    obtain ⟨cs,t,fr,h1,h2⟩:=hF b p hp
    exact ⟨⟨trivial,(Array.getElem?_eq_some_iff.1 h1).1⟩,cs,t,fr,h1,h2⟩,fun π h=>(by cases h)⟩
  obtain ⟨p,hp,rfl⟩:=zk2 ht
  obtain ⟨v,hv,hok⟩:=h.get hp
  have:args.getD t undef=v:=by rw[Array.getD_eq_getD_getElem?,← Array.getElem?_toList,hv]; rfl
  rw[this]
  have hle:Le (zfh w) (cx ⟨fun b=>b < w.heap.size,w,fun _=>True,fun _=>none,F,fun _=>True,none⟩ ⟨zk3 (zhR ar y),[]⟩ (fun _=>none) w) (fun _=>True) :=
    ⟨fun _ h => .inr trivial,fun _ _ _=>rfl,Nat.le_refl _,fun b _ _ ht=>(by obtain ⟨m,e,v,h1,_⟩:=ht; cases h1),fun _ _ => .inl rfl,(fun _ _ _ _ _ _ h=>by cases h),fun _ _ h=>h⟩
  exact hle.v (ze3 _) hok
theorem law_calls {F:Nat→Option (Array Value→Prop)} {f:FuncId} {fn:Func} {s:ChangeSpec} {apart fresh handsOn again:Bool} {W:World} {b0:Nat} {args:Array Value} {ds gs:List (DataW H)} {before:List MemPlace} {ar:List (Bool × List CK)}
    {run:Tys (zrS ar).tin.ks→Option Bool} {t:TypeId}
    (hM:zaw P F f ⟨zrS ar,Bool,run,fun b=>(b,())⟩) (hs:parKs P fn.params.toList=some ar) (hrun:∀ x:Tys (insOf ar),Tys.wf (insOf ar) x→run (zLH ar x)=some true)
    (hl:laidOutB P=true) (hread:(fn.params.toList.all fun t=>P.readableRec t && Nat.blt t P.types.size)=true) (hrt:fn.resultTypes=#[t]) (ht:P.underlying t=some .bool)
    (hv:s.vars=[]) (hspec:∀ ds:List (DataW H),ds.length=fn.params.toList.length→s.fn H (ds++[])={ results:=[.lit (.bool true)],args:=ds })
    (hval:∀ (j:Nat) t v,fn.params[j]? = some t→args[j]? = some v→Value.okWide P W .any b0 t v)
    (hW:DataW.Whole enc P fn.params.toList s.vars apart W args.toList ds gs before) (hF:zMY F W) :
    Calls P f args W fun e W'=>∃ v,e = .returned v∧s.post enc P fn apart fresh handsOn again W args v W':=by
  have hW0:=hW
  obtain ⟨p,q,hA,hV,rfl,hfz,hnd⟩:=hW
  rw[hv] at hV
  obtain ⟨rfl,rfl⟩:=trodVars_none hV
  obtain ⟨y,h1,h2,h3⟩:=zsX (b0:=b0) hs hA fun j t v e1 e2=>hval j t v (by simpa using e1) (by simpa using e2)
  have hy:=hrun y h2
  have hc:=hM _ W _ args _ _ rfl hy (zLG hF h1)
  refine hc.mono fun e W' ⟨vs,β',he,hkp,hG⟩=>⟨_,he,?_⟩
  have hb:Below W.heap.size W W':=⟨hkp.os,hkp.tape,hkp.output,hkp.size,hkp.block⟩
  have hsp:=hspec ds h3
  have hvv:zkI false vs = .bool true:=by
    have hv':zaR _ (.v false [.d (.bool true)]) (vs.getD 0 undef):=hG.env 0 _ (fun h=>h) rfl
    obtain ⟨a,e1,e2,_⟩:=(show VOk _ false [.d (.bool true)] (vs.getD 0 undef) from hv')
    cases e1
    obtain ⟨fp,hr,_⟩:=(e2:Cx.rd _ (vs.getD 0 undef) (.bool true))
    show vs.getD 0 undef=_
    generalize vs.getD 0 undef=v at hr
    cases hr; rfl
  show s.post enc P fn apart fresh handsOn again W args (zkI false vs) W'
  rw[hvv]
  have hlt:∀ x∈p++[],x.block < W.heap.size:=fun x hx=>hW0.lt x hx
  have hold:∀ x∈p++[],(fun b=>decide (b < W.heap.size)) x.block=true:=fun x hx=>by simpa using hlt x hx
  have hres:∀ (b:Nat) (sp:Nat→Bool) (hd:Bool),DataW.TrodAll enc P W' b sp hd fn.resultTypes.toList ((Value.bool true).resultList fn.resultTypes.size) (s.fn H (ds++[])).results []:=by
    intro b sp hd
    rw[hrt,hsp]
    exact trodAll_cons_mk (shut_bool ht true) rfl
  have hargs:∀ sp:Nat→Bool,(∀ x∈p++[],sp x.block=true)→DataW.TrodAll enc P W' 0 sp true fn.params.toList args.toList (s.fn H (ds++[])).args p:=by
    intro sp hsp'
    rw[hsp]
    exact zmc hl hread hA (fun x hx=>hb.same (hlt x (by simpa using hx))) (fun x hx=>hsp' x (by simpa using hx))
  have hvars:∀ sp:Nat→Bool,DataW.TrodVars enc P W' sp s.vars (s.fn H (ds++[])).vars []:=by
    intro sp
    rw[hv,hsp]; rfl
  refine ⟨ds,[],p++[],[],p,[],hW0,hres _ _ _,hargs _ hold,hvars _,World.keptBut_mono (fun x hx=>⟨hx,?_⟩) (hb.frame (·∈p++[])),fun _=>?_⟩
  · exact .inr (.inl (by simpa using hx))
  · refine ⟨ok_one hrt rfl (okWide_bool_mk ht _),_,_,([]++p)++[],⟨[]++p,[],trodAll_append (hargs _ (fun _ _=>rfl)) (hres _ _ _),hvars _,rfl,?_,?_⟩,?_⟩
    · intro b off hp
      have hin:MemPlace.cell b off∈p++[]:=by simpa using hp
      rw[hb.frozen (hlt _ hin)]
      exact hfz b off hin
    · intro ha
      have:=hnd ha
      simpa using this
    · intro x hx _
      simpa using hx
end
end Go.Di
namespace Go.Di
structure Bg where
  neg:Bool
  mag:List Int
structure Cur where
  b:List Int
  i:Int
  h:Int
structure Mx where
  rows:Int
  cols:Int
  cells:List Rt
structure Net where
  plane:Bool
  stations:List Sta
structure Bk where
  plane:Bool
  stations:List Sta
  obs:List Obs
structure Rdn where
  rows:Int
  cols:Int
  cells:List Rt
  pivots:List Int
  factors:List Rt
structure RdnP where
  rows:Int
  cols:Int
  cells:List Rt
  pivots:List Int
structure MxT where
  rows:Int
  cols:Int
  cells:List TRt
structure RdnT where
  rows:Int
  cols:Int
  cells:List TRt
  pivots:List Int
  factors:Unit
end Go.Di
namespace Go.Di
def zwS (i:Nat):List (Nat × Bool × List C1T)→Option (Bool × List C1T)
  | []=>none
  | (j,x) :: r=>match Nat.beq i j with
    | true=>some x
    | false=>zwS i r
def zah (l:List (Nat × Bool × List C1T)):Nat→Nat→List (Option (Bool × List C1T))
  | 0,_=>[]
  | n+1,i=>zwS i l :: zah l n (i+1)
theorem zae {P:Program} {F:Nat→Option (Array Value→Prop)}:zaj P F []:=fun f c _ h=>by
  rcases h with h | h<;>cases h
theorem zgm {f g:FuncId} {c d:Con} {r:List (FuncId × Con)} (h:zhy g ((f,c) :: r)=some d):(g=f∧d=c)∨zhy g r=some d:=by
  unfold zhy at h
  split at h
  · rename_i hb; cases h; exact .inl ⟨Nat.eq_of_beq_eq_true hb,rfl⟩
  · exact .inr h
theorem zaa {P:Program} {F:Nat→Option (Array Value→Prop)} {f:FuncId} {c:Con} {r:List (FuncId × Con)} (h:zaw P F f c) (hc:Callable P f) (hlt:Nat.blt f zNu=true) (hr:zaj P F r):zaj P F ((f,c) :: r):=by
  intro g d hg hgd
  have hlt:=Nat.le_of_ble_eq_true hlt
  rcases hgd with hgd | hgd
  · rcases zgm hgd with ⟨rfl,rfl⟩ | h1
    · exact ⟨h,hc⟩
    · exact hr g d hg (.inl h1)
  · rcases zgm hgd with ⟨h1,_⟩ | h1
    · exfalso
      have h2:Nat.add g 1048576=f:=h1
      have h3:f < 1048576:=hlt
      rw[← h2] at h3
      exact absurd (Nat.le_add_left 1048576 g) (Nat.not_le.2 h3)
    · exact hr g d hg (.inr h1)
theorem zKI {P:Program} {F:Nat→Option (Array Value→Prop)} {f:FuncId} {c:Con} {r:List (FuncId × Con)} (h:zaw P F f c) (hc:Callable P f) (hr:zaj P F r):zaj P F ((f+zNu,c) :: r):=by
  intro g d hg hgd
  have hg':=Nat.le_of_ble_eq_true hg
  rcases hgd with hgd | hgd
  · rcases zgm hgd with ⟨h1,_⟩ | h1
    · exfalso
      have h3:g < 1048576:=hg'
      rw[h1] at h3
      exact absurd (Nat.le_add_left 1048576 f) (Nat.not_le.2 h3)
    · exact hr g d hg (.inl h1)
  · rcases zgm hgd with ⟨h1,rfl⟩ | h1
    · have:g=f:=Nat.add_right_cancel h1
      subst this
      exact ⟨h,hc⟩
    · exact hr g d hg (.inr h1)
def callB (fn : Func) : Bool := !(fn.name == "runtime.NumGoroutine") && !fn.body.isNone
theorem zab {P:Program} {f:FuncId} {fn:Func} (h:P.funcs[f]? = some fn) (hb:callB fn=true):Callable P f:=by
  unfold callB at hb
  simp only[Bool.and_eq_true,Bool.not_eq_true'] at hb
  exact ⟨fn,h,hb.1,hb.2⟩
def zFn (P:Program) (F:Nat→Option (Array Value→Prop)) (E:Env):List Code→Prop
  | []=>True
  | b :: r=>(∃ m,zif (keyOf b) E.loops=some m∧zay P F m b)∧zFn P F E r
theorem zac {P:Program} {F:Nat→Option (Array Value→Prop)} {E:Env} {c:Code} {l:List Code} (h:zad c=l) (hl:zFn P F E l):∀ b∈zad c,∀ m,zif (keyOf b) E.loops=some m→zay P F m b:=by
  rw[h]
  clear h
  induction l with
  | nil=>intro b hb; cases hb
  | cons a r ih =>
    intro b hb m hm
    rcases List.mem_cons.1 hb with rfl | hb
    · obtain ⟨⟨m',h1,h2⟩,_⟩:=hl
      rw[hm] at h1; cases h1; exact h2
    · exact ih hl.2 b hb m hm
theorem zam {P:Program} {F:Nat→Option (Array Value→Prop)} {E:Env} (hm:P.follows .mixedOrders=true) (hL:zcC P E.lay) (hC:zaj P F E.cons) {D:LoopD} {body:Code} {f:Tys D.head.ks→Option (zcp D.outs)} (hD:zfW E.plans body=true)
    (hl:∀ b∈zad body,∀ m,zif (keyOf b) E.loops=some m→zay P F m b) {S:Tys D.head.ks→Option (Tys D.head.ks ⊕ zcp D.outs)} (hS:∀ x,stepL E D body x=S x)
    (hf:∀ x y,f x=some y→whileO S x=some y):zay P F (zaT D f) body :=
  loop_ok hm hL hC hD hl fun x y h=>by rw[show stepL E D body=S from funext hS]; exact hf x y h
end Go.Di
open Go.RowKit (Below)
namespace Go.Di
section
variable {C:Bs} {s:St} {X:Nat→Prop} {β:Nat→Option Value} {args:Array Value} {w w':World}
end
end Go.Di
namespace Go.Di
end Go.Di
