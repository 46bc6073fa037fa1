/-
  Own work: part 9 of the texts that the proof of the given statement leans on.
-/
import Derived.Test.YtemlaciidfaceaaGreatZInverseP01
noncomputable section
namespace Go.Di
end Go.Di
namespace Go.Di
theorem zNe {n lo hi:Int}:inB n lo hi=true↔lo≤n∧n≤hi:=by
  unfold inB; simp only[Bool.and_eq_true,decide_eq_true_iff]
structure MxQ (m:Mx) (r c:Nat) (q:List Rat):Prop where
  r24:r≤24
  c24:c≤24
  len:q.length=r * c
  fits:Fits q
  eq:m=⟨r,c,q.map rq⟩
theorem zq2 {r c:Nat} (hr:r≤24) (hc:c≤24):r * c≤576:=by
  calc r * c≤24 * 24:=Nat.mul_le_mul hr hc
    _=576:=rfl
theorem zGR {m:Mx} (h:mxB m=true):∃ r c q,MxQ m r c q:=by
  unfold mxB at h
  simp only[Bool.and_eq_true,zNe] at h
  obtain ⟨⟨h1,h2⟩,⟨h3,h4⟩,h5,h6⟩:=h
  obtain ⟨q,hq,he⟩:=zEA h6
  obtain ⟨rows,cols,cells⟩:=m
  simp only at *
  obtain ⟨r,rfl⟩:=Int.eq_ofNat_of_zero_le h1
  obtain ⟨c,rfl⟩:=Int.eq_ofNat_of_zero_le h3
  have hp:=zq2 (show r≤24 by omega) (show c≤24 by omega)
  have e1:((r:Int) * (c:Int))=((r * c:Nat):Int):=by simp
  rw[e1,wrap_i64 (by omega) (by omega),beq_iff_eq] at h5
  subst he
  exact ⟨r,c,q,by omega,by omega,by rw[List.length_map] at h5; omega,hq,rfl⟩
theorem zmu {i c k:Nat} (hi:i < 1000) (hc:c≤1000) (hk:k < 1000):IntKind.i64.wrap (IntKind.i64.wrap ((i:Int) * (c:Int))+(k:Int))=((i * c+k:Nat):Int):=by
  have hp:i * c≤1000 * 1000:=Nat.mul_le_mul (by omega) hc
  have e1:((i:Int) * (c:Int))=((i * c:Nat):Int):=by simp
  rw[e1,wrap_i64 (n:=((i * c:Nat):Int)) (by omega) (by omega),wrap_i64 (by omega) (by omega)]
  simp
theorem zqJ {i r c k:Nat} (hi:i < r) (hk:k < c):i * c+k < r * c:=by
  have:(i+1) * c≤r * c:=Nat.mul_le_mul_right _ (by omega)
  rw[Nat.add_mul,Nat.one_mul] at this
  omega
/-! ### Matrices of integers -/
/-! ### Elements,rows,diagonals -/
/-! ### Products with vectors -/
end Go.Di
namespace Go.Di
/-! ### Grids -/
def grid {α:Type} (r c:Nat) (g:Nat→Nat→α):List α:=(List.range r).flatMap fun i=>(List.range c).map (g i)
theorem zij {α:Type} (r c:Nat) (g:Nat→Nat→α):grid (r+1) c g=grid r c g++(List.range c).map (g r):=by
  unfold grid; rw[List.range_succ,List.flatMap_append]; simp
theorem zaX {α:Type} (r c:Nat) (g:Nat→Nat→α):(grid r c g).length=r * c:=by
  induction r with
  | zero=>simp[grid]
  | succ r ih=>rw[zij,List.length_append,ih,List.length_map,List.length_range,Nat.add_mul,Nat.one_mul]
theorem zkx {α:Type} {r c:Nat} (g:Nat→Nat→α) {j:Nat} (h:j < r * c):(grid r c g)[j]? = some (g (j / c) (j % c)):=by
  induction r with
  | zero=>omega
  | succ r ih =>
    rw[zij]
    by_cases hj:j < r * c
    · rw[List.getElem?_append_left (by rw[zaX]; exact hj)]; exact ih hj
    · rw [List.getElem?_append_right (by rw[zaX]; omega),zaX]
      rw[Nat.add_mul,Nat.one_mul] at h
      have hk:j - r * c < c:=by omega
      rw[List.getElem?_map,List.getElem?_range hk]
      have e:j=c * r+(j - r * c):=by rw[Nat.mul_comm c r]; omega
      have h1:j / c=r:=by
        rw[e,Nat.mul_add_div (by omega),Nat.div_eq_of_lt hk]; omega
      have h2:j % c=j - r * c:=by
        conv=>lhs; rw[e]
        rw[Nat.mul_add_mod,Nat.mod_eq_of_lt hk]
      rw[h1,h2]; rfl
theorem zpz {i c k:Nat} (hk:k < c):(i * c+k) / c=i∧(i * c+k) % c=k:=by
  constructor
  · rw[Nat.mul_comm,Nat.mul_add_div (by omega),Nat.div_eq_of_lt hk]; omega
  · rw[Nat.mul_comm,Nat.mul_add_mod,Nat.mod_eq_of_lt hk]
theorem zpS {α:Type} {r c:Nat} (g:Nat→Nat→α) {i k:Nat} (hi:i < r) (hk:k < c):(grid r c g)[i * c+k]? = some (g i k):=by
  rw[zkx g (zqJ hi hk),(zpz hk).1,(zpz hk).2]
theorem zhz {α β:Type} (f:α→β) (r c:Nat) (g:Nat→Nat→α):(grid r c g).map f=grid r c fun i k=>f (g i k):=by
  unfold grid
  rw[List.map_flatMap]
  congr 1
  funext i
  rw[List.map_map]; rfl
theorem zpR {α:Type} {r c:Nat} {g:Nat→Nat→α} {x:α} (h:x∈grid r c g):∃ i k,i < r∧k < c∧x=g i k:=by
  obtain ⟨i,hi,hx⟩:=List.mem_flatMap.1 h
  obtain ⟨k,hk,rfl⟩:=List.mem_map.1 hx
  exact ⟨i,k,List.mem_range.1 hi,List.mem_range.1 hk,rfl⟩
theorem zkY {r c j:Nat} (h:j < r * c):j / c < r∧j % c < c∧j / c * c+j % c=j:=by
  have hc:0 < c:=by
    rcases Nat.eq_zero_or_pos c with h0 | h0
    · subst h0; simp at h
    · exact h0
  refine ⟨Nat.div_lt_of_lt_mul (by rw[Nat.mul_comm]; exact h),Nat.mod_lt _ hc,?_⟩
  rw[Nat.mul_comm]; exact Nat.div_add_mod j c
theorem zaG {α:Type} {r c:Nat} {g h:Nat→Nat→α} (e:∀ i k,i < r→k < c→g i k=h i k):grid r c g=grid r c h:=by
  apply List.ext_getElem?
  intro j
  by_cases hj:j < r * c
  · obtain ⟨h1,h2,_⟩:=zkY hj
    rw[zkx g hj,zkx h hj,e _ _ h1 h2]
  · rw[List.getElem?_eq_none (by rw[zaX]; omega),List.getElem?_eq_none (by rw[zaX]; omega)]
theorem zwP {α:Type} (r c:Nat) (f:Nat→α):grid r c (fun i k=>f (i * c+k))=(List.range (r * c)).map f:=by
  apply List.ext_getElem?
  intro j
  by_cases hj:j < r * c
  · rw[zkx _ hj,(zkY hj).2.2,List.getElem?_map,List.getElem?_range hj]; rfl
  · rw[List.getElem?_eq_none (by rw[zaX]; omega),List.getElem?_eq_none (by simp; omega)]
theorem zwO {α:Type} {r c i k:Nat} (g:Nat→Nat→α) (x:α) (hi:i < r) (hk:k < c):(grid r c g).set (i * c+k) x=grid r c fun a b=>if a=i∧b=k then x else g a b:=by
  apply List.ext_getElem?
  intro j
  rw[List.getElem?_set]
  by_cases hj:j < r * c
  · obtain ⟨h1,h2,h3⟩:=zkY hj
    rw[zkx (fun a b=>if a=i∧b=k then x else g a b) hj]
    split
    · rename_i e
      rw[if_pos (by rw[zaX]; omega)]
      subst e
      rw[(zpz hk).1,(zpz hk).2,if_pos ⟨rfl,rfl⟩]
    · rename_i e
      rw[zkx g hj,if_neg (by rintro ⟨e1,e2⟩; rw[e1,e2] at h3; exact e h3)]
  · rw[List.getElem?_eq_none (l:=grid r c _) (by rw[zaX]; omega),if_neg (by have:=zqJ hi hk; omega),List.getElem?_eq_none (by rw[zaX]; omega)]
theorem zNk {α:Type} {l:List α} {r c:Nat} (hl:l.length=r * c) (d:α):grid r c (fun i k=>(l[i * c+k]?).getD d)=l:=by
  rw[zwP r c fun j=>(l[j]?).getD d,← hl,znf]
/-! ### Loops -/
theorem app_from {β σ ρ:Type} {S:σ→Option (σ ⊕ ρ)} (x0:List β) (st:Int→List β→σ) (g:Nat→β) (n:Nat) {r:List β→ρ}
    (hS:∀ (i:Nat) out,i < n→out.length=x0.length+i→S (st (i:Int) out)=some (.inl (st ((i+1:Nat):Int) (out++[g i])))) (hE:∀ out,out.length=x0.length+n→S (st (n:Int) out)=some (.inr (r out))) :
    whileO S (st 0 x0)=some (r (x0++(List.range n).map g)):=by
  have key:=za1 S (fun i=>st (i:Int) (x0++(List.range i).map g)) n (r (x0++(List.range n).map g)) (fun i hi=>by
    rw[hS i _ hi (by simp),List.range_succ,List.map_append,List.append_assoc]; rfl) (hE _ (by simp))
  simpa using key
theorem grid_loop {β σ ρ:Type} {S:σ→Option (σ ⊕ ρ)} (st:Int→List β→σ) (g:Nat→Nat→β) (n c:Nat) {r:List β→ρ}
    (hS:∀ (i:Nat) out,i < n→out.length=i * c→S (st (i:Int) out)=some (.inl (st ((i+1:Nat):Int) (out++(List.range c).map (g i))))) (hE:∀ out,out.length=n * c→S (st (n:Int) out)=some (.inr (r out))) :
    whileO S (st 0 [])=some (r (grid n c g)):=by
  have key:=za1 S (fun i=>st (i:Int) (grid i c g)) n (r (grid n c g)) (fun i hi=>by
    rw[hS i _ hi (zaX ..),zij]) (hE _ (zaX ..))
  simpa [grid] using key
theorem zwl {i n c k r m:Nat} (hi:i < n) (hk:k < c) (hn:n≤24) (hc:c≤24) (hr:r=i * c) (hm:m=r+k):zak (Nat.ble (m+1) zan)=some ():=by
  have:=zqJ hi hk
  have:=zq2 hn hc
  exact zm7 (by omega)
/-! ### Identities -/
def idO (i k:Nat):Option Rat:=if i=k then some 1 else some 0
theorem zEG:Fit 1:=by
  have:=zvr (n:=1) (by omega) (by omega)
  simpa using this
theorem zL7 (i k:Nat):Oks (idO i k):=by
  unfold idO; split
  · exact zEG.ok
  · exact zi1.ok
theorem zBa:zbs 1=some (ro (some 1)):=by
  have:=zlk (n:=1) (by omega) (by omega)
  simpa using this
theorem zGr:zbj 1=some (ro (some 1)):=by
  have:=zkl (n:=1) (by omega) (by omega)
  simpa using this
theorem zHv (i k:Nat):zc9 (i:Int) (k:Int)=some (ro (idO i k)):=by
  unfold zc9 idO
  have:((i:Int)==(k:Int))=decide (i=k):=by rw[Bool.eq_iff_iff]; simp; omega
  rw[this,zBa,zyU]
  by_cases h:i=k
  · rw[decide_eq_true h,if_pos h]; rfl
  · rw[decide_eq_false h,if_neg h]; rfl
theorem zEt {n:Nat} (hn:n≤24):zbd n n=some ⟨n,n,(grid n n idO).map ro⟩:=by
  unfold zbd zbU
  rw [grid_loop (S:=zaP) (fun i out=>((n:Int),(n:Int),i,0,0,[],(n:Int),(n:Int),out,())) (fun i k=>ro (idO i k)) n n (r:=fun out=>(0,0,[],(n:Int),(n:Int),out,())) (fun i out hi ho=>by
    unfold zaP zbT
    simp only[dlt hi,cond_true]
    rw [app_from (S:=zaO) out (fun k out=>((n:Int),(i:Int),(n:Int),(i:Int),(n:Int),k,0,0,[],(n:Int),(n:Int),out,())) (fun k=>ro (idO i k)) n (r:=fun out=>((n:Int),(n:Int),(i:Int),0,0,[],(n:Int),(n:Int),out,())) (fun k xs hk hx=>by
      simp only[zaO,dlt hk,cond_true,zHv,Option.bind_some,zwl hi hk hn hn ho hx,zaq hk (show n≤1048576 by omega)]) (fun out _=>by simp[zaO])]
    simp only[Option.bind_some,zaq hi (show n≤1048576 by omega)]) (fun out _=>by simp[zaP])]
  rw[zhz]; rfl
theorem zyZ {n:Nat} (hn:n≤20000):zdH (n:Int)=some ((List.range n).map fun _=>ro (some 0)):=by
  unfold zdH zhb
  rw [zqK (S:=zb9) (fun _ out=>((n:Int),out,())) (fun _=>ro (some 0)) n (r:=fun out=>(out,())) (fun i out hi ho=>by
    have hlt:decide ((out.length:Int) < (n:Int))=true:=dlt (by omega)
    simp only[zb9,hlt,cond_true,zBm,Option.bind_some,zm7 (show out.length≤2000000 by omega)]) (fun out ho=>by
    have:decide ((out.length:Int) < (n:Int))=false:=decide_eq_false (by omega)
    simp only[zb9,this,cond_false])]
  rfl
theorem zCn {r c:Nat} {g:Nat→Nat→Option Rat} (hr:r≤24) (hc:c≤24) (h:∀ i k,i < r→k < c→Oks (g i k)):Rfit ((grid r c g).map ro) :=
  zCm (fun o ho=>by obtain ⟨i,k,hi,hk,rfl⟩:=zpR ho; exact h i k hi hk) (by rw[zaX]; have:=zq2 hr hc; omega)
/-! ### Transposed matrices -/
def trans (q:List Rat) (r c:Nat):List Rat:=grid c r fun i k=>(q[k * c+i]?).getD 0
/-! ### Sums,products -/
/-! ### Parts -/
end Go.Di
namespace Go.Di
end Go.Di
namespace Go.Di
theorem zBo {o:Option Rat} (ho:Oks o):zfL (ro o)=some (ro (zQy o)):=by
  unfold zfL
  cases o with
  | none =>
    have h0:zaw (!(ro none).neg) (ro none).mag=some (bg 0):=by
      rw[ze3]
      show zaw true (dg 0)=_
      rw[zdy true (by rw[zaB]; simp),zpt]
    rw[h0,Option.bind_some,room (by simp[ro]),Option.bind_some,zqH]; rfl
  | some q =>
    have fq:=ho q rfl
    show ((zaw (!decide (q.num < 0)) (dg q.num.natAbs)).bind fun r1=>(zak (Nat.ble (dg q.den).length zan)).bind fun _=>some (⟨r1.neg,r1.mag,dg q.den⟩:Rt))=_
    rw[zdy _ (by have:=fq.1; omega),Option.bind_some,room (by have:=fq.2; omega),Option.bind_some]
    have e:sg (!decide (q.num < 0)) q.num.natAbs = -q.num:=by
      by_cases h:q.num < 0
      · rw[decide_eq_true h]; simp only[sg,Bool.not_true,cond_false]; omega
      · rw[decide_eq_false h]; simp only[sg,Bool.not_false,cond_true]; omega
    rw[e]; rfl
theorem zBn {o p:Option Rat} (ho:Oks o) (hp:Oks p):zfJ (ro o) (ro p)=some (ro (zpn o p)):=by
  unfold zfJ
  rw[zBo hp,Option.bind_some,spec_addO ho (zwy hp)]; rfl
/-! ### Half tangents -/
/-! ### Lists of observations -/
end Go.Di
namespace Go.Di
end Go.Di
namespace Go.Di
theorem stop_loop {σ ρ:Type} {S:σ→Option (σ ⊕ ρ)} (st:Nat→σ) (n:Nat) (ok:Nat→Bool) (bad fin:ρ)
    (h:∀ i,i < n→(∀ j,j < i→ok j=true)→S (st i)=some (cond (ok i) (.inl (st (i+1))) (.inr bad)))
    (he:(∀ j,j < n→ok j=true)→S (st n)=some (.inr fin)):whileO S (st 0)=some (cond ((List.range n).all ok) fin bad):=by
  have key : ∀ s i,i+s=n→(∀ j,j < i→ok j=true)→whileO S (st i)=some (cond ((List.range n).all ok) fin bad):=by
    intro s
    induction s with
    | zero =>
      intro i hi hj
      have:i=n:=by omega
      subst this
      have ha:(List.range i).all ok=true:=by rw[List.all_eq_true]; intro x hx; exact hj x (List.mem_range.1 hx)
      rw[ha,cond_true]; exact zaA (he hj)
    | succ s ih =>
      intro i hi hj
      have hn:i < n:=by omega
      have hs:=h i hn hj
      cases hb:ok i with
      | true =>
        rw[hb,cond_true] at hs
        rw[zbt hs]
        exact ih (i+1) (by omega) fun j hji=>by
          by_cases e:j=i
          · rw[e]; exact hb
          · exact hj j (by omega)
      | false =>
        rw[hb,cond_false] at hs
        have ha:(List.range n).all ok=false:=by
          rw[← Bool.not_eq_true,List.all_eq_true]
          intro hall
          have:=hall i (List.mem_range.2 hn)
          rw[hb] at this; cases this
        rw[ha,cond_false]; exact zaA hs
  exact key n 0 (by omega) fun j hj=>by omega
def zvz (lo:List (Option Rat)) (p:Nat):Option Rat:=(lo[p]?).getD none
theorem zpO {lo:List (Option Rat)} {p:Nat} (h:p < lo.length):idx (lo.map ro) (p:Int)=some (ro (zvz lo p)):=by
  rw[zNh h]; unfold zvz; rw[List.getElem?_eq_getElem h]; rfl
theorem zEC {lo:List (Option Rat)} {p:Nat} (h:p < lo.length):(lo.map ro)[p]? = some (ro (zvz lo p)):=by
  rw[← zku,zpO h]
theorem zLZ (q:List Rat):q.map rq=(q.map some).map ro:=by rw[List.map_map]; rfl
theorem zHw {lo:List (Option Rat)} {n c i k:Nat} {x:Int} (hl:lo.length=n * c) (hn:n≤1000) (hc:c≤1000) (hi:i < n) (hk:k < c) :
    zbq ⟨x,c,lo.map ro⟩ i k=some (ro (zvz lo (i * c+k)),lo.map ro):=by
  have hp:i * c+k < lo.length:=by rw[hl]; exact zqJ hi hk
  unfold zbq
  simp only[zmu (show i < 1000 by omega) hc (show k < 1000 by omega),zpO hp,Option.bind_some,Int.toNat_natCast,zEC hp]
theorem zGu {lo:List (Option Rat)} {n c i k:Nat} {x:Int} (hl:lo.length=n * c) (hn:n≤1000) (hc:c≤1000) (hi:i < n) (hk:k < c) :
    zaW ⟨x,c,lo.map ro⟩ i k=some (ro (zvz lo (i * c+k)),lo.map ro):=zHw hl hn hc hi hk
section
variable {q lo:List (Option Rat)} {d:List Rat} {n k:Nat}
end
/-! ### A column -/
section
variable {q lo:List (Option Rat)} {d:List Rat} {n k:Nat} {x:Rat}
end
/-! ### All columns -/
structure FacOk (n k:Nat) (lo:List (Option Rat)) (d:List Rat):Prop where
  len:lo.length=n * n
  oks:∀ o∈lo,Oks o
  all:∀ o∈lo,o.isSome=true
  fits:Fits d
  dlen:d.length=k
  pos:∀ y∈d,0 < y
theorem zvh {n:Nat} (hn:n≤24):zhZ n=some ⟨n,n,(grid n n idO).map ro⟩:=by
  have:=zEt hn
  unfold zhZ
  rw[show zcu=zbd from rfl,this]; rfl
theorem ztU {n:Nat} (hn:n≤20000):zdH (n:Int)=some ((List.range n).map fun _=>ro (some 0)):=zyZ hn
theorem zy2 {n:Nat} (hn:n≤24):zcN n=some ⟨n,n,(grid n n idO).map ro⟩:=by
  have hp:=zq2 hn hn
  unfold zcN ze0 
  have e1:((n:Int) * (n:Int))=((n * n:Nat):Int):=by simp
  have hz:zfh (n:Int) n=some ⟨n,n,(List.range (n * n)).map fun _=>ro (some 0)⟩:=by
    unfold zfh
    rw[e1,wrap_i64 (by omega) (by omega),ztU (by omega),Option.bind_some]
  rw[hz,Option.bind_some]
  let zs:Nat→List Rt:=fun i=>grid n n fun a b=>if a=b∧a < i then ro (some 1) else ro (some 0)
  have key:=za1 za9 (fun i=>((n:Int),(i:Int),0,0,([]:List Rt),(n:Int),(n:Int),zs i,())) n (0,0,[],(n:Int),(n:Int),zs n,()) (fun i hi=>by
    have hj:i * n+i < (zs i).length:=by simp only[zs]; rw[zaX]; exact zqJ hi hi
    have hg:(zs i)[i * n+i]? = some (zs i)[i * n+i]:=List.getElem?_eq_getElem hj
    simp only[za9,dlt hi,cond_true,zGr,Option.bind_some,zmu (show i < 1000 by omega) (show n≤1000 by omega) (show i < 1000 by omega),zaM hj,Int.toNat_natCast,zaq hi (show n≤1048576 by omega)]
    congr 10
    simp only[zs]
    rw[zwO _ _ hi hi]
    refine zaG fun a b ha hb=>?_
    by_cases h:a=i∧b=i
    · rw[if_pos h,if_pos ⟨h.1.trans h.2.symm,by omega⟩]
    · rw[if_neg h]
      by_cases h2:a=b∧a < i
      · rw[if_pos h2,if_pos ⟨h2.1,by omega⟩]
      · rw[if_neg h2,if_neg (by rintro ⟨e1,e2⟩; exact h2 ⟨e1,by omega⟩)]) (by simp[za9])
  have h0:zs 0=(List.range (n * n)).map fun _=>ro (some 0):=by
    simp only[zs]
    rw[← zwP n n fun _=>ro (some 0)]
    exact zaG fun a b _ _=>by simp
  have hn':zs n=(grid n n idO).map ro:=by
    simp only[zs]
    rw[zhz]
    refine zaG fun a b ha hb=>?_
    unfold idO
    by_cases h:a=b
    · rw[if_pos ⟨h,ha⟩,if_pos h]
    · rw[if_neg (fun e=>h e.1),if_neg h]
  rw[h0] at key
  refine (congrArg (fun x=>Option.bind x _) key).trans ?_
  show some (⟨(n:Int),(n:Int),zs n⟩:Mx)=_
  rw[hn']
end Go.Di
namespace Go.Di
theorem zsE {r c:Nat} {g:Nat→Nat→Option Rat} {i k:Nat} (hi:i < r) (hk:k < c):zvz (grid r c g) (i * c+k)=g i k:=by
  unfold zvz; rw[zpS g hi hk]; rfl
theorem zis {r c:Nat} {g:Nat→Nat→Option Rat} {i k:Nat} {x:Int} (hr:r≤1000) (hc:c≤1000) (hi:i < r) (hk:k < c) :
    zaW ⟨x,c,(grid r c g).map ro⟩ i k=some (ro (g i k),(grid r c g).map ro):=by
  rw[zGu (zaX r c g) hr hc hi hk,zsE hi hk]
theorem zyI {r c:Nat} {g:Nat→Nat→Option Rat} {i k:Nat} {x:Int} (hr:r≤1000) (hc:c≤1000) (hi:i < r) (hk:k < c) :
    zbq ⟨x,c,(grid r c g).map ro⟩ i k=some (ro (g i k),(grid r c g).map ro):=zis hr hc hi hk
theorem zi0 {r c:Nat} {g:Nat→Nat→Option Rat} {i k:Nat} (hi:i < r) (hk:k < c):idx ((grid r c g).map ro) ((i * c+k:Nat):Int)=some (ro (g i k)):=by
  rw[zpO (by rw[zaX]; exact zqJ hi hk),zsE hi hk]
theorem zet {r c:Nat} {g:Nat→Nat→Option Rat} {i k:Nat} (hi:i < r) (hk:k < c):((grid r c g).map ro)[i * c+k]? = some (ro (g i k)):=by
  rw[← zku,zi0 hi hk]
theorem zgq {r c:Nat} {g h:Nat→Nat→Option Rat} {i k:Nat} {o:Option Rat} (hi:i < r) (hk:k < c) (e:∀ a b,a < r→b < c→h a b=if a=i∧b=k then o else g a b) :
    ((grid r c g).map ro).set (i * c+k) (ro o)=(grid r c h).map ro:=by
  rw[← List.map_set,zwO g o hi hk]
  rw[zaG e]
theorem zq8 (o:Option Rat):zdg (ro o)=some (decide (o=some 0∨o=none)):=by
  cases o with
  | none=>simp[zdg,ro]
  | some q=>rw[show ro (some q)=rq q from rfl,zOF]; simp
def zfB (r c:Nat) (g:Nat→Nat→Option Rat):Prop:=∀ i k,i < r→k < c→Oks (g i k)∧(g i k).isSome=true
def swp (g:Nat→Nat→Option Rat) (p u:Nat):Nat→Nat→Option Rat:=fun a b=>if a=p then g u b else if a=u then g p b else g a b
def dvd (g:Nat→Nat→Option Rat) (u k:Nat):Nat→Nat→Option Rat:=fun a b=>if a=u then divO (g u b) (g u k) else g a b
def clr (g:Nat→Nat→Option Rat) (u k:Nat):Nat→Nat→Option Rat:=fun a b=>if a=u then g u b else if g a k=some 0 then g a b else zpn (g a b) (zmy (g a k) (g u b))
def zkB (g:Nat→Nat→Option Rat) (k:Nat):Nat→Nat→Nat
  | 0,i=>i
  | s+1,i=>if g i k=some 0 then zkB g k s (i+1) else i
theorem znk (g:Nat→Nat→Option Rat) (k:Nat):∀ s i,i≤zkB g k s i∧zkB g k s i≤i+s
  | 0,i=>⟨Nat.le_refl _,Nat.le_refl _⟩
  | s+1,i=>by
    unfold zkB
    split
    · have:=znk g k s (i+1); omega
    · omega
theorem zni (g:Nat→Nat→Option Rat) (k:Nat):∀ s i a,i≤a→a < zkB g k s i→g a k=some 0
  | 0,i,a,h1,h2=>by unfold zkB at h2; omega
  | s + 1,i,a,h1,h2=>by
    unfold zkB at h2
    split at h2
    · by_cases e:a=i
      · rw[e]; assumption
      · exact zni g k s (i+1) a (by omega) h2
    · omega
theorem znj (g:Nat→Nat→Option Rat) (k:Nat):∀ s i,zkB g k s i < i+s→g (zkB g k s i) k≠some 0
  | 0,i,h=>by unfold zkB at h; omega
  | s+1,i,h=>by
    unfold zkB at h ⊢
    split
    · rename_i h0; rw[if_pos h0] at h; exact znj g k s (i+1) (by omega)
    · assumption
section
variable {r c:Nat} {g:Nat→Nat→Option Rat} {k u:Nat}
theorem sel_find (hr:r≤24) (hc:c≤200) (hg:zfB r c g) (hk:k < c) (hu:u≤r) (n:Int) (pv:List Int) (fs:List Rt) :
    zd6 k n u r c ((grid r c g).map ro) pv fs=some ((k:Int),n,((zkB g k (r - u) u:Nat):Int),(r:Int),(c:Int),(grid r c g).map ro,pv,fs,()):=by
  unfold zd6
  have key : ∀ s i,i+s=r→whileO za5 ((k:Int),n,(i:Int),(r:Int),(c:Int),(grid r c g).map ro,pv,fs,())=some ((k:Int),n,((zkB g k s i:Nat):Int),(r:Int),(c:Int),(grid r c g).map ro,pv,fs,()):=by
    intro s
    induction s with
    | zero =>
      intro i hi
      apply zaA
      simp[za5,zkB,show i=r by omega]
    | succ s ih =>
      intro i hi
      have hir:i < r:=by omega
      by_cases h0:g i k=some 0
      · rw [zbt (y:=((k:Int),n,((i+1:Nat):Int),(r:Int),(c:Int),(grid r c g).map ro,pv,fs,()))]
        · rw[ih (i+1) (by omega),zkB,if_pos h0]
        · simp only[za5,dlt hir,cond_true,zis (show r≤1000 by omega) (show c≤1000 by omega) hir hk,Option.bind_some,zq8,h0,zaq hir (show r≤1048576 by omega)]
          simp
      · apply zaA
        have hsm:=(hg i k hir hk).2
        have hn:¬ (g i k=some 0∨g i k=none):=by
          rintro (h | h)
          · exact h0 h
          · rw[h] at hsm; cases hsm
        simp only[za5,dlt hir,cond_true,zis (show r≤1000 by omega) (show c≤1000 by omega) hir hk,Option.bind_some,zq8,decide_eq_false hn,cond_false,zkB,if_neg h0]
  exact key (r - u) u (by omega)
theorem sel_swap (hr:r≤24) (hc:c≤200) {p:Nat} (hp:p < r) (hu:u < r) (k0:Int) (pv:List Int) (fs:List Rt) :
    zd5 k0 u p 0 r c ((grid r c g).map ro) fs pv=some (k0,(u:Int),(r:Int),(c:Int),(grid r c (swp g p u)).map ro,fs,pv,()):=by
  unfold zd5
  have key := za1 zbo (fun j=>(k0,(u:Int),(p:Int),(j:Int),(r:Int),(c:Int),(grid r c (fun a b=>if b < j then swp g p u a b else g a b)).map ro,fs,pv,())) c
    (k0, (u : Int),(r:Int),(c:Int),(grid r c (fun a b=>if b < c then swp g p u a b else g a b)).map ro,fs,pv,()) (fun j hj=>by
      have e1:=zmu (i:=p) (c:=c) (k:=j) (by omega) (by omega) (by omega)
      have e2:=zmu (i:=u) (c:=c) (k:=j) (by omega) (by omega) (by omega)
      have s1:=zgq (r:=r) (c:=c) (g:=fun a b=>if b < j then swp g p u a b else g a b) (h:=fun a b=>if a=p∧b=j then g u j else if b < j then swp g p u a b else g a b) (o:=g u j) hp hj (fun a b _ _=>rfl)
      have s2:=zgq (r:=r) (c:=c) (g:=fun a b=>if a=p∧b=j then g u j else if b < j then swp g p u a b else g a b) (h:=fun a b=>if b < j+1 then swp g p u a b else g a b) (o:=g p j) hu hj (fun a b _ _=>by
        unfold swp
        by_cases hb:b=j
        · subst hb
          by_cases h1:a=u
          · subst h1
            by_cases h2:a=p
            · subst h2; simp
            · simp[h2]
          · by_cases h2:a=p
            · subst h2; simp[h1]
            · simp[h1,h2]
        · have:(b < j+1)=(b < j):=by rw[eq_iff_iff]; omega
          simp[hb,this])
      simp only[zbo,dlt hj,cond_true,e1,e2,zi0 hp hj,zi0 hu hj,Int.toNat_natCast,zet hp hj,zet hu hj,Option.bind_some,Nat.lt_irrefl,if_false,s1,s2,zaq hj (show c≤1048576 by omega)]) (by simp[zbo])
  refine Eq.trans ?_ (key.trans ?_)
  · rw[zaG (r:=r) (c:=c) (g:=fun a b=>if b < 0 then swp g p u a b else g a b) (h:=g) (fun a b _ _=>by simp)]; rfl
  · rw[zaG (r:=r) (c:=c) (g:=fun a b=>if b < c then swp g p u a b else g a b) (h:=swp g p u) (fun a b _ hb=>by simp[hb])]
theorem sel_div (hr:r≤24) (hc:c≤200) (hg:zfB r c g) (hk:k < c) (hu:u < r) (k0:Int) (pv:List Int) (fs:List Rt) :
    L_spec_l07Reduce_m_3 k0 u k r c ((grid r c g).map ro) (ro (g u k)).neg (ro (g u k)).mag (ro (g u k)).den fs pv =
      some (k0,(u:Int),(r:Int),(c:Int),(grid r c (fun a b=>if a=u∧k≤b then divO (g u b) (g u k) else g a b)).map ro,fs,pv,()):=by
  unfold L_spec_l07Reduce_m_3
  have key := za1 zbn (fun j=>(k0,(u:Int),((k+j:Nat):Int),(r:Int),(c:Int),(grid r c (fun a b=>if a=u∧k≤b∧b < k+j then divO (g u b) (g u k) else g a b)).map ro,(ro (g u k)).neg,(ro (g u k)).mag,(ro (g u k)).den,fs,pv,())) (c - k)
    (k0, (u : Int),(r:Int),(c:Int),(grid r c (fun a b=>if a=u∧k≤b∧b < k+(c - k) then divO (g u b) (g u k) else g a b)).map ro,fs,pv,()) (fun j hj=>by
      have hj':k+j < c:=by omega
      have e1:=zmu (i:=u) (c:=c) (k:=k+j) (by omega) (by omega) (by omega)
      have s1:=zgq (r:=r) (c:=c) (g:=fun a b=>if a=u∧k≤b∧b < k+j then divO (g u b) (g u k) else g a b) (h:=fun a b=>if a=u∧k≤b∧b < k+(j+1) then divO (g u b) (g u k) else g a b) (o:=divO (g u (k+j)) (g u k)) hu hj' (fun a b _ _=>by
        by_cases h1:a=u
        · subst h1
          by_cases h2:b=k+j
          · subst h2; rw[if_pos ⟨rfl,by omega,by omega⟩,if_pos ⟨rfl,rfl⟩]
          · rw[if_neg (show ¬ (a=a∧b=k+j) from fun h=>h2 h.2)]
            by_cases h3:k≤b∧b < k+j
            · rw[if_pos ⟨rfl,h3.1,by omega⟩,if_pos ⟨rfl,h3⟩]
            · rw[if_neg (by rintro ⟨_,h4,h5⟩; exact h3 ⟨h4,by omega⟩),if_neg (by rintro ⟨_,h4⟩; exact h3 h4)]
        · rw[if_neg (fun h=>h1 h.1),if_neg (fun h=>h1 h.1),if_neg (fun h=>h1 h.1)])
      have hd:=zBt (hg u (k+j) hu hj').1 (hg u k hu hk).1
      have ha:=zis (r:=r) (c:=c) (g:=fun a b=>if a=u∧k≤b∧b < k+j then divO (g u b) (g u k) else g a b) (x:=(r:Int)) (show r≤1000 by omega) (show c≤1000 by omega) hu hj'
      rw[if_neg (by omega)] at ha
      simp only[zbn,decide_eq_true (show ((k+j:Nat):Int) < (c:Int) by omega),cond_true,ha,Option.bind_some]
      show ((zeD (ro (g u (k+j))) (ro (g u k))).bind _)=_
      simp only[hd,Option.bind_some,e1,zi0 hu hj',Int.toNat_natCast,s1,zaq hj' (show c≤1048576 by omega)]
      rfl) (by simp only[zbn,decide_eq_false (show ¬ (((k+(c - k):Nat):Int) < (c:Int)) by omega),cond_false])
  refine Eq.trans ?_ (key.trans ?_)
  · rw[zaG (r:=r) (c:=c) (g:=fun a b=>if a=u∧k≤b∧b < k+0 then divO (g u b) (g u k) else g a b) (h:=g) (fun a b _ _=>if_neg (by omega))]; rfl
  · rw [zaG (r:=r) (c:=c) (g:=fun a b=>if a=u∧k≤b∧b < k+(c - k) then divO (g u b) (g u k) else g a b) (h:=fun a b=>if a=u∧k≤b then divO (g u b) (g u k) else g a b) (fun a b _ hb=>by
      by_cases h1:a=u∧k≤b
      · rw[if_pos h1,if_pos ⟨h1.1,h1.2,by omega⟩]
      · rw[if_neg h1,if_neg (fun h=>h1 ⟨h.1,h.2.1⟩)])]
def zmF (x f y:Option Rat):Option Rat:=if y=some 0∨y=none then x else zpn x (zmy f y)
theorem sel_clear1 (hr:r≤24) (hc:c≤200) (hg:∀ i k,i < r→k < c→Oks (g i k)) {i:Nat} (hi:i < r) (hu:u < r) (hiu:i≠u) {f:Option Rat} (hf:Oks f) :
    L_spec_l07Clear_mdd_1 u k i k ((grid r c g).map ro) r c (ro f).neg (ro f).mag (ro f).den =
      some ((u:Int),(k:Int),(i:Int),(grid r c (fun a b=>if a=i∧k≤b then zmF (g i b) f (g u b) else g a b)).map ro,(r:Int),(c:Int),()):=by
  unfold L_spec_l07Clear_mdd_1
  have key := za1 zbh (fun j=>((u:Int),(k:Int),(i:Int),((k+j:Nat):Int),(grid r c (fun a b=>if a=i∧k≤b∧b < k+j then zmF (g i b) f (g u b) else g a b)).map ro,(r:Int),(c:Int),(ro f).neg,(ro f).mag,(ro f).den,())) (c - k)
    ((u : Int),(k:Int),(i:Int),(grid r c (fun a b=>if a=i∧k≤b∧b < k+(c - k) then zmF (g i b) f (g u b) else g a b)).map ro,(r:Int),(c:Int),()) (fun j hj=>by
      have hj':k+j < c:=by omega
      have e1:=zmu (i:=i) (c:=c) (k:=k+j) (by omega) (by omega) (by omega)
      have s0:∀ a b,(if a=i∧k≤b∧b < k+(j+1) then zmF (g i b) f (g u b) else g a b)=if a=i∧b=k+j then zmF (g i (k+j)) f (g u (k+j)) else if a=i∧k≤b∧b < k+j then zmF (g i b) f (g u b) else g a b:=by
        intro a b
        by_cases h1:a=i
        · subst h1
          by_cases h2:b=k+j
          · subst h2; rw[if_pos ⟨rfl,by omega,by omega⟩,if_pos ⟨rfl,rfl⟩]
          · rw[if_neg (show ¬ (a=a∧b=k+j) from fun h=>h2 h.2)]
            by_cases h3:k≤b∧b < k+j
            · rw[if_pos ⟨rfl,h3.1,by omega⟩,if_pos ⟨rfl,h3⟩]
            · rw[if_neg (by rintro ⟨_,h4,h5⟩; exact h3 ⟨h4,by omega⟩),if_neg (by rintro ⟨_,h4⟩; exact h3 h4)]
        · rw[if_neg (fun h=>h1 h.1),if_neg (fun h=>h1 h.1),if_neg (fun h=>h1 h.1)]
      have s1:=zgq (r:=r) (c:=c) (g:=fun a b=>if a=i∧k≤b∧b < k+j then zmF (g i b) f (g u b) else g a b) (h:=fun a b=>if a=i∧k≤b∧b < k+(j+1) then zmF (g i b) f (g u b) else g a b) (o:=zmF (g i (k+j)) f (g u (k+j))) hi hj' (fun a b _ _=>s0 a b)
      have ha:=zis (r:=r) (c:=c) (g:=fun a b=>if a=i∧k≤b∧b < k+j then zmF (g i b) f (g u b) else g a b) (x:=(r:Int)) (show r≤1000 by omega) (show c≤1000 by omega) hu hj'
      rw[if_neg (by rintro ⟨h,_⟩; exact hiu h.symm)] at ha
      have hb:=zis (r:=r) (c:=c) (g:=fun a b=>if a=i∧k≤b∧b < k+j then zmF (g i b) f (g u b) else g a b) (x:=(r:Int)) (show r≤1000 by omega) (show c≤1000 by omega) hi hj'
      rw[if_neg (by omega)] at hb
      simp only[zbh,decide_eq_true (show ((k+j:Nat):Int) < (c:Int) by omega),cond_true,ha,Option.bind_some,zq8]
      by_cases h0:g u (k+j)=some 0∨g u (k+j)=none
      · rw [decide_eq_true h0]
        have e2:zmF (g i (k+j)) f (g u (k+j))=g i (k+j):=by unfold zmF; rw[if_pos h0]
        have s2:grid r c (fun a b=>if a=i∧k≤b∧b < k+(j+1) then zmF (g i b) f (g u b) else g a b)=grid r c (fun a b=>if a=i∧k≤b∧b < k+j then zmF (g i b) f (g u b) else g a b):=zaG fun a b _ _=>by
          show (if a=i∧k≤b∧b < k+(j+1) then zmF (g i b) f (g u b) else g a b)=_
          rw[s0,e2]
          by_cases h1:a=i∧b=k+j
          · rw[if_pos h1,h1.1,h1.2,if_neg (by omega)]
          · rw[if_neg h1]
        simp only[Bool.not_true,cond_false,zaq hj' (show c≤1048576 by omega)]
        rw[show k+j+1=k+(j+1) from rfl,s2]
      · rw[decide_eq_false h0]
        have e2:zmF (g i (k+j)) f (g u (k+j))=zpn (g i (k+j)) (zmy f (g u (k+j))):=by unfold zmF; rw[if_neg h0]
        rw[e2] at s1
        simp only[Bool.not_false,cond_true,hb,ha,Option.bind_some]
        show ((zeE (ro f) (ro (g u (k+j)))).bind _)=_
        simp only[zBq hf (hg u (k+j) hu hj'),Option.bind_some,zBn (hg i (k+j) hi hj') (zwz (o:=f) (p:=g u (k+j))),e1,zi0 hi hj',Int.toNat_natCast,s1,zaq hj' (show c≤1048576 by omega)]
        rfl) (by simp only[zbh,decide_eq_false (show ¬ (((k+(c - k):Nat):Int) < (c:Int)) by omega),cond_false])
  refine Eq.trans ?_ (key.trans ?_)
  · rw[zaG (r:=r) (c:=c) (g:=fun a b=>if a=i∧k≤b∧b < k+0 then zmF (g i b) f (g u b) else g a b) (h:=g) (fun a b _ _=>if_neg (by omega))]; rfl
  · rw [zaG (r:=r) (c:=c) (g:=fun a b=>if a=i∧k≤b∧b < k+(c - k) then zmF (g i b) f (g u b) else g a b) (h:=fun a b=>if a=i∧k≤b then zmF (g i b) f (g u b) else g a b) (fun a b _ hb=>by
      by_cases h1:a=i∧k≤b
      · rw[if_pos h1,if_pos ⟨h1.1,h1.2,by omega⟩]
      · rw[if_neg h1,if_neg (fun h=>h1 ⟨h.1,h.2.1⟩)])]
def zkK (g:Nat→Nat→Option Rat) (u k:Nat):Nat→Nat→Option Rat:=fun a b=>if a≠u∧¬ (g a k=some 0∨g a k=none)∧k≤b then zmF (g a b) (g a k) (g u b) else g a b
theorem zGM {a b:Nat} (h:Oks (g a b)):Oks (zkK g u k a b):=by
  unfold zkK zmF
  split
  · split
    · exact h
    · exact zww
  · exact h
theorem sel_clear (hr:r≤24) (hc:c≤200) (hg:∀ i k,i < r→k < c→Oks (g i k)) (hu:u < r) (hk:k < c) :
    zcm ⟨r,c,(grid r c g).map ro⟩ u k=some ((grid r c (zkK g u k)).map ro):=by
  unfold zcm zfx
  have key := za1 zbi (fun i=>((u:Int),(k:Int),(i:Int),(grid r c (fun a b=>if a < i then zkK g u k a b else g a b)).map ro,(r:Int),(c:Int),())) r
    ((grid r c (fun a b=>if a < r then zkK g u k a b else g a b)).map ro,()) (fun i hi=>by
      have ha:=zis (r:=r) (c:=c) (g:=fun a b=>if a < i then zkK g u k a b else g a b) (x:=(r:Int)) (show r≤1000 by omega) (show c≤1000 by omega) hi hk
      rw[if_neg (Nat.lt_irrefl i)] at ha
      simp only[zbi,dlt hi,cond_true,ha,Option.bind_some]
      have same:(∀ b,zkK g u k i b=g i b)→grid r c (fun a b=>if a < i+1 then zkK g u k a b else g a b)=grid r c (fun a b=>if a < i then zkK g u k a b else g a b):=fun h=>zaG fun a b _ _=>by
        by_cases h1:a < i
        · rw[if_pos h1,if_pos (by omega)]
        · rw[if_neg h1]
          by_cases h2:a=i
          · subst h2; rw[if_pos (by omega),h]
          · rw[if_neg (by omega)]
      by_cases hiu:i=u
      · subst hiu
        rw[same (fun b=>by unfold zkK; rw[if_neg (fun h=>h.1 rfl)])]
        simp only[beq_self_eq_true,cond_true,zaq hi (show r≤1048576 by omega)]
      · have hb:((i:Int)==(u:Int))=false:=by
          rw[beq_eq_false_iff_ne]; omega
        simp only[hb,cond_false,zq8]
        by_cases h0:g i k=some 0∨g i k=none
        · rw[decide_eq_true h0,Option.bind_some,cond_true,same (fun b=>by unfold zkK; rw[if_neg (fun h=>h.2.1 h0)])]
          simp only[zaq hi (show r≤1048576 by omega)]
        · rw [decide_eq_false h0,Option.bind_some,cond_false]
          have h1:=sel_clear1 (k:=k) (g:=fun a b=>if a < i then zkK g u k a b else g a b) hr hc (fun a b h1 h2=>by
            show Oks (if a < i then zkK g u k a b else g a b)
            split
            · exact zGM (hg a b h1 h2)
            · exact hg a b h1 h2) hi hu hiu (hg i k hi hk)
          rw[h1,Option.bind_some]
          simp only[zaq hi (show r≤1048576 by omega)]
          rw[zaG (r:=r) (c:=c) (h:=fun a b=>if a < i+1 then zkK g u k a b else g a b) (fun a b _ _=>?_)]
          by_cases h2:a=i
          · subst h2
            have hsu:(if u < a then zkK g u k u b else g u b)=g u b:=by
              split
              · unfold zkK; rw[if_neg (fun h=>h.1 rfl)]
              · rfl
            rw[if_pos (show a < a+1 by omega),if_neg (Nat.lt_irrefl a),hsu]
            unfold zkK
            by_cases h3:k≤b
            · rw[if_pos ⟨rfl,h3⟩,if_pos ⟨hiu,h0,h3⟩]
            · rw[if_neg (fun h=>h3 h.2),if_neg (fun h=>h3 h.2.2)]
          · rw[if_neg (fun h=>h2 h.1)]
            have:(a < i+1)=(a < i):=by rw[eq_iff_iff]; omega
            simp only[this]) (by simp[zbi])
  rw[zaG (r:=r) (c:=c) (g:=fun a b=>if a < r then zkK g u k a b else g a b) (h:=zkK g u k) (fun a b h _=>if_pos h)] at key
  refine (congrArg (fun x=>Option.bind x _) (Eq.trans ?_ key)).trans ?_
  · rw[zaG (r:=r) (c:=c) (g:=fun a b=>if a < 0 then zkK g u k a b else g a b) (h:=g) (fun a b _ _=>if_neg (by omega))]; rfl
  · rfl
end
/-! ### Rounds -/
structure ES where
  g:Nat→Nat→Option Rat
  pv:List Int
  fs:List (Option Rat)
def zsU (r c:Nat) (g:Nat→Nat→Option Rat):Bool:=(grid r c g).all Option.isSome
theorem zeb {r c:Nat} {g:Nat→Nat→Option Rat}:zsU r c g=true↔∀ i k,i < r→k < c→(g i k).isSome=true:=by
  unfold zsU
  rw[List.all_eq_true]
  constructor
  · intro h i k hi hk; exact h _ (List.mem_of_getElem? (zpS g hi hk))
  · intro h o ho
    obtain ⟨i,k,hi,hk,rfl⟩:=zpR ho
    exact h i k hi hk
def zkF (r c k:Nat) (s:ES):Option ES :=
  if s.pv.length < r then
    let p:=zkB s.g k (r - s.pv.length) s.pv.length
    if p=r then some s else
      let g1:=swp s.g p s.pv.length
      let g2:=dvd g1 s.pv.length k
      let g3:=clr g2 s.pv.length k
      cond (zsU r c g2 && zsU r c g3) (some ⟨g3,s.pv++[(k:Int)],(s.fs++if p≠s.pv.length then [some (-1)] else [])++[g1 s.pv.length k]⟩) none
  else some s
def elim (r c:Nat) (g:Nat→Nat→Option Rat):Nat→Option ES
  | 0=>some ⟨g,[],[]⟩
  | k+1=>(elim r c g k).bind (zkF r c k)
structure EInv (r c k:Nat) (s:ES):Prop where
  good:zfB r c s.g
  used:s.pv.length≤r
  few:s.pv.length≤k
  zero:∀ i j,s.pv.length≤i→i < r→j < k→j < c→s.g i j=some 0
  fsok:∀ o∈s.fs,Oks o
  fsall:∀ o∈s.fs,o.isSome=true
  fslen:s.fs.length≤2 * k
theorem zkZ {y:Rat} (hy:y≠0):divO (some 0) (some y)=some 0:=by
  show (if y=0 then none else chk (0 / y))=_
  rw[if_neg hy,Rat.div_def,Rat.zero_mul,zgG zi1]
theorem zr1 {y:Rat} (hy:y≠0):divO (some y) (some y)=some 1:=by
  show (if y=0 then none else chk (y / y))=_
  rw[if_neg hy,Rat.div_def,Rat.mul_inv_cancel _ hy,zgG zEG]
theorem zwC {o:Option Rat} (h:Oks o):zmy o (some 1)=o:=by
  cases o with
  | none=>rfl
  | some q =>
    show chk (q * 1)=some q
    rw[Rat.mul_one,zgG (h q rfl)]
theorem zqR {x:Rat}:zpn (some x) (some x)=some 0:=by
  show chk (x + -x)=some 0
  rw[← Rat.sub_eq_add_neg,Rat.sub_self,zgG zi1]
theorem zmY {o:Option Rat} (h:Oks o):zpn o (some 0)=o:=by
  cases o with
  | none=>rfl
  | some q =>
    show chk (q + -0)=some q
    rw[show (-0:Rat)=0 from rfl,Rat.add_zero,zgG (h q rfl)]
section
variable {r c:Nat} {g:Nat→Nat→Option Rat} {k u p:Nat}
theorem zmE (hg:zfB r c g) (hp:p < r) (hu:u < r):zfB r c (swp g p u):=fun i k hi hk=>by
  unfold swp
  split
  · exact hg u k hu hk
  · split
    · exact hg p k hp hk
    · exact hg i k hi hk
theorem zmD (hu:u < r) (hp:p < r) (hup:u≤p) (hz:∀ i j,u≤i→i < r→j < k→j < c→g i j=some 0):∀ i j,u≤i→i < r→j < k→j < c→swp g p u i j=some 0:=fun i j h1 h2 h3 h4=>by
  unfold swp
  split
  · exact hz u j (Nat.le_refl u) hu h3 h4
  · split
    · exact hz p j hup hp h3 h4
    · exact hz i j h1 h2 h3 h4
theorem zuh (hg:zfB r c g) {a b:Nat} (ha:a < r) (hb:b < c):Oks (dvd g u k a b):=by
  unfold dvd
  split
  · exact zGN
  · exact (hg a b ha hb).1
theorem zCA (h:∀ i k,i < r→k < c→Oks (g i k)) {a b:Nat} (ha:a < r) (hb:b < c):Oks (clr g u k a b):=by
  unfold clr
  split
  · rename_i e; subst e; exact h _ b ha hb
  · split
    · exact h a b ha hb
    · exact zww
theorem zHI (hk:k < c) (hz:∀ j,j < k→g u j=some 0) {y:Rat} (hy:g u k=some y) (h0:y≠0) (a b:Nat) :
    (if a=u∧k≤b then divO (g u b) (g u k) else g a b)=dvd g u k a b:=by
  unfold dvd
  by_cases h1:a=u
  · subst h1
    rw[if_pos rfl]
    by_cases h2:k≤b
    · rw[if_pos ⟨rfl,h2⟩]
    · rw[if_neg (fun h=>h2 h.2),hz b (by omega),hy,zkZ h0]
  · rw[if_neg (fun h=>h1 h.1),if_neg h1]
theorem zGB (hg:∀ i j,i < r→j < c→Oks (g i j)) (hall:∀ i j,i < r→j < c→(g i j).isSome=true) (hu:u < r) (hk:k < c) (hz:∀ j,j < k→g u j=some 0) {a b:Nat} (ha:a < r) (hb:b < c) :
    zkK g u k a b=clr g u k a b:=by
  unfold zkK clr
  by_cases h1:a=u
  · rw[if_neg (fun h=>h.1 h1),if_pos h1,h1]
  · rw [if_neg h1]
    have hn:g a k≠none:=fun h=>by have:=hall a k ha hk; rw[h] at this; cases this
    by_cases h2:g a k=some 0
    · rw[if_neg (fun h=>h.2.1 (.inl h2)),if_pos h2]
    · rw [if_neg h2]
      have h3:¬ (g a k=some 0∨g a k=none):=by rintro (h | h); exact h2 h; exact hn h
      have hz0:g u b=some 0→zpn (g a b) (zmy (g a k) (g u b))=g a b:=fun e=>by
        obtain ⟨x,hx⟩:=Option.ne_none_iff_exists'.1 hn
        rw[e,hx,zkr,zmY (hg a b ha hb)]
      by_cases h4:k≤b
      · rw[if_pos ⟨h1,h3,h4⟩]
        unfold zmF
        have hnu:g u b≠none:=fun h=>by have:=hall u b hu hb; rw[h] at this; cases this
        by_cases h5:g u b=some 0
        · rw[if_pos (.inl h5),hz0 h5]
        · rw[if_neg (by rintro (h | h); exact h5 h; exact hnu h)]
      · rw[if_neg (fun h=>h4 h.2.2),hz0 (hz b (by omega))]
theorem step_inv {s s':ES} (h:EInv r c k s) (hk:k < c) (e:zkF r c k s=some s'):EInv r c (k+1) s':=by
  unfold zkF at e
  split at e
  · rename_i hur
    obtain ⟨pl,ph⟩:=znk s.g k (r - s.pv.length) s.pv.length
    generalize hpe:zkB s.g k (r - s.pv.length) s.pv.length=p at *
    simp only at e
    split at e
    · rename_i hpr
      injection e with e; subst e
      refine ⟨h.good,h.used,by have:=h.few; omega,fun i j h1 h2 h3 h4=>?_,h.fsok,h.fsall,by have:=h.fslen; omega⟩
      by_cases hj:j=k
      · subst hj; exact zni s.g j _ _ i h1 (by rw[hpe]; omega)
      · exact h.zero i j h1 h2 (by omega) h4
    · rename_i hpr
      have hp:p < r:=by omega
      have hne:s.g p k≠some 0:=by rw[← hpe]; exact znj s.g k _ _ (by rw[hpe]; omega)
      have g1:=zmE (u:=s.pv.length) h.good hp hur
      have z1:=zmD (c:=c) hur hp pl h.zero
      have e1:swp s.g p s.pv.length s.pv.length k=s.g p k:=by
        unfold swp
        split
        · rename_i e; rw[e]
        · rw[if_pos rfl]
      generalize swp s.g p s.pv.length=gg at *
      generalize hu:s.pv.length=u at *
      cases hall:(zsU r c (dvd gg u k) && zsU r c (clr (dvd gg u k) u k)) with
      | false=>rw[hall] at e; cases e
      | true =>
        rw[hall] at e
        injection e with e; subst e
        rw[Bool.and_eq_true] at hall
        have a2:=zeb.1 hall.1
        have a3:=zeb.1 hall.2
        have o2:∀ i j,i < r→j < c→Oks (dvd gg u k i j):=fun i j hi hj=>zuh g1 hi hj
        obtain ⟨y,hy⟩:=Option.isSome_iff_exists.1 (g1 u k hur hk).2
        have hy0:y≠0:=fun e0=>hne (by rw[← e1,hy,e0])
        have hzu:∀ j,j < k→dvd gg u k u j=some 0:=fun j hj=>by
          unfold dvd; rw[if_pos rfl,z1 u j (Nat.le_refl u) hur hj (by omega),hy,zkZ hy0]
        have hone:dvd gg u k u k=some 1:=by unfold dvd; rw[if_pos rfl,hy,zr1 hy0]
        refine ⟨fun i j hi hj=>⟨zCA o2 hi hj,a3 i j hi hj⟩,?_,?_,fun i j h1 h2 h3 h4=>?_,fun o ho=>?_,fun o ho=>?_,?_⟩
        · simp[hu]; omega
        · have:=h.few; simp[hu] at this ⊢; omega
        · simp only[List.length_append,List.length_singleton,hu] at h1
          show clr (dvd gg u k) u k i j=some 0
          have hd:dvd gg u k i j=gg i j:=by unfold dvd; rw[if_neg (by omega)]
          have hdk:dvd gg u k i k=gg i k:=by unfold dvd; rw[if_neg (by omega)]
          unfold clr
          rw[if_neg (by omega),hd,hdk]
          obtain ⟨x,hx⟩:=Option.isSome_iff_exists.1 (g1 i k h2 hk).2
          by_cases hj:j=k
          · subst hj
            split
            · assumption
            · rw[hone,hx,zwC ((g1 i j h2 hk).1 |> fun h=>by rw[hx] at h; exact h),zqR]
          · rw[z1 i j (by omega) h2 (by omega) h4,hzu j (by omega)]
            split
            · rfl
            · rw[hx,zkr]; exact zmY zi1.ok
        · rcases List.mem_append.1 ho with ho | ho
          · rcases List.mem_append.1 ho with ho | ho
            · exact h.fsok o ho
            · split at ho
              · rw[List.mem_singleton.1 ho]
                have:=zvr (n := -1) (by omega) (by omega)
                exact (show Fit (-1:Rat) by simpa using this).ok
              · cases ho
          · rw[List.mem_singleton.1 ho]; exact (g1 u k hur hk).1
        · rcases List.mem_append.1 ho with ho | ho
          · rcases List.mem_append.1 ho with ho | ho
            · exact h.fsall o ho
            · split at ho
              · rw[List.mem_singleton.1 ho]; rfl
              · cases ho
          · rw[List.mem_singleton.1 ho]; exact (g1 u k hur hk).2
        · have:=h.fslen
          have:(if p≠u then [some (-1:Rat)] else []).length≤1:=by split<;>simp
          simp only[List.length_append,List.length_singleton]; omega
  · rename_i hur
    injection e with e; subst e
    refine ⟨h.good,h.used,by have:=h.few; omega,fun i j h1 h2 h3 h4=>by omega,h.fsok,h.fsall,by have:=h.fslen; omega⟩
theorem zi4 (hg:zfB r c g):∀ {k:Nat} {s:ES},k≤c→elim r c g k=some s→EInv r c k s:=by
  intro k
  induction k with
  | zero =>
    intro s _ e
    injection e with e; subst e
    exact ⟨hg,Nat.zero_le _,Nat.le_refl _,fun i j _ _ h _=>by omega,fun o ho=>(by cases ho),fun o ho=>(by cases ho),Nat.le_refl _⟩
  | succ k ih =>
    intro s hk e
    unfold elim at e
    cases h0:elim r c g k with
    | none=>rw[h0] at e; cases e
    | some s0 =>
      rw[h0] at e
      exact step_inv (ih (by omega) h0) (by omega) e
end
end Go.Di
namespace Go.Di
section
variable {r c:Nat} {g:Nat→Nat→Option Rat} {k:Nat}
def sst (r c k:Nat) (s:ES):Int × Int × Int × (List Rt) × (List Int) × (List Rt) × Unit:=((k:Int),(r:Int),(c:Int),(grid r c s.g).map ro,s.pv,s.fs.map ro,())
theorem spec_step {s:ES} (hr:r≤24) (hc:c≤200) (h:EInv r c k s) (hk:k < c) (hur:s.pv.length < r) :
    (∃ s',zkF r c k s=some s'∧zaz (sst r c k s)=some (.inl (sst r c (k+1) s'))) ∨
    (zkF r c k s=none∧∃ lo pv fs,lo.length=r * c∧lo.all Option.isSome=false∧zaz (sst r c k s)=some (.inr (.inl (List.map ro lo,pv,fs,())))):=by
  unfold zkF
  rw[if_pos hur]
  obtain ⟨pl,ph⟩:=znk s.g k (r - s.pv.length) s.pv.length
  have hfind:=sel_find (u:=s.pv.length) hr hc h.good hk (Nat.le_of_lt hur) s.pv.length s.pv (s.fs.map ro)
  have hne:zkB s.g k (r - s.pv.length) s.pv.length < s.pv.length+(r - s.pv.length)→s.g (zkB s.g k (r - s.pv.length) s.pv.length) k≠some 0:=znj s.g k _ _
  generalize zkB s.g k (r - s.pv.length) s.pv.length=p at *
  simp only
  have hdec:decide ((s.pv.length:Int) < (r:Int))=true:=decide_eq_true (by omega)
  have fl1:zak (Nat.ble ((s.fs.map ro).length+1) zan)=some ():=zm7 (by rw[List.length_map]; have:=h.fslen; omega)
  have fl2:zak (Nat.ble ((s.fs.map ro++[ro (some (-1))]).length+1) zan)=some ():=zm7 (by rw[List.length_append,List.length_map]; have:=h.fslen; simp; omega)
  have pl1:zak (Nat.ble (s.pv.length+1) zan)=some ():=zm7 (by omega)
  by_cases hpr:p=r
  · subst hpr
    left
    rw[if_pos rfl]
    refine ⟨s,rfl,?_⟩
    unfold sst
    simp only[zaz,dlt hk,cond_true,hdec,hfind,Option.bind_some,beq_self_eq_true,zaq hk (show c≤1048576 by omega)]
  · rw [if_neg hpr]
    have hp:p < r:=by omega
    have hne:=hne (by omega)
    have g1:=zmE (u:=s.pv.length) h.good hp hur
    have z1:=zmD (c:=c) hur hp pl h.zero
    have e1:swp s.g p s.pv.length s.pv.length k=s.g p k:=by
      unfold swp
      split
      · rename_i e; rw[e]
      · rw[if_pos rfl]
    have hself:p=s.pv.length→swp s.g p s.pv.length=s.g:=fun e=>by
      subst e; funext a b; unfold swp; split
      · rename_i h; rw[h]
      · rfl
    have hsw:=sel_swap (g:=s.g) (r:=r) (c:=c) hr hc hp hur (k:Int) s.pv (s.fs.map ro++[ro (some (-1))])
    generalize swp s.g p s.pv.length=gg at *
    obtain ⟨y,hy⟩:=Option.isSome_iff_exists.1 (g1 s.pv.length k hur hk).2
    have hy0:y≠0:=fun e0=>hne (by rw[← e1,hy,e0])
    have hbeq:((p:Int)==(r:Int))=false:=by rw[beq_eq_false_iff_ne]; omega
    have hat:=zis (r:=r) (c:=c) (g:=gg) (x:=(r:Int)) (show r≤1000 by omega) (show c≤1000 by omega) hur hk
    have hdivl:∀ fs:List Rt,L_spec_l07Reduce_m_3 k s.pv.length k r c ((grid r c gg).map ro) (ro (gg s.pv.length k)).neg (ro (gg s.pv.length k)).mag (ro (gg s.pv.length k)).den fs s.pv=some ((k:Int),(s.pv.length:Int),(r:Int),(c:Int),(grid r c (dvd gg s.pv.length k)).map ro,fs,s.pv,()):=fun fs=>by
      rw[sel_div hr hc g1 hk hur]
      rw[zaG (r:=r) (c:=c) (h:=dvd gg s.pv.length k) (fun a b _ _=>zHI hk (fun j hj=>z1 _ j (Nat.le_refl _) hur hj (by omega)) hy hy0 a b)]
    have o2:∀ i j,i < r→j < c→Oks (dvd gg s.pv.length k i j):=fun i j hi hj=>zuh g1 hi hj
    have hcl:=sel_clear (g:=dvd gg s.pv.length k) hr hc o2 hur hk
    have hfine:=zm0 (l:=grid r c (zkK (dvd gg s.pv.length k) s.pv.length k)) (by rw[zaX]; have:r * c≤24 * 200:=Nat.mul_le_mul hr hc; omega)
    -- what is put at the end of the factors
    have hS:zaz (sst r c k s)=cond (!(grid r c (zkK (dvd gg s.pv.length k) s.pv.length k)).all Option.isSome)
        (some (.inr (.inl ((grid r c (zkK (dvd gg s.pv.length k) s.pv.length k)).map ro,s.pv++[(k:Int)],((s.fs++if p≠s.pv.length then [some (-1)] else [])++[gg s.pv.length k]).map ro,()))))
        (some (.inl (((k+1:Nat):Int),(r:Int),(c:Int),(grid r c (zkK (dvd gg s.pv.length k) s.pv.length k)).map ro,s.pv++[(k:Int)],((s.fs++if p≠s.pv.length then [some (-1)] else [])++[gg s.pv.length k]).map ro,()))):=by
      by_cases hpu:p=s.pv.length
      · have hbne:((p:Int) != (s.pv.length:Int))=false:=by rw[hpu]; simp
        rw[if_neg (fun h=>h hpu),List.append_nil,List.map_append,List.map_singleton]
        have hg:=hself hpu
        unfold sst
        simp only[zaz,dlt hk,cond_true,hdec,hfind,Option.bind_some,hbeq,cond_false,hbne]
        rw[← hg]
        simp only[hat,Option.bind_some,fl1,hdivl,hcl,pl1,hfine,zaq hk (show c≤1048576 by omega)]
      · have hbne:((p:Int) != (s.pv.length:Int))=true:=by
          rw[bne_iff_ne]; omega
        have hm1:zbj (-1)=some (ro (some (-1))):=by
          have:=zkl (n := -1) (by omega) (by omega)
          rw[this]; simp
        rw[if_pos hpu,List.map_append,List.map_append,List.map_singleton,List.map_singleton]
        unfold sst
        simp only[zaz,dlt hk,cond_true,hdec,hfind,Option.bind_some,hbeq,cond_false,hbne,hm1,fl1,hsw,hat,fl2,hdivl,hcl,pl1,hfine,zaq hk (show c≤1048576 by omega)]
    cases h2:zsU r c (dvd gg s.pv.length k) with
    | false =>
      right
      refine ⟨by rw[Bool.false_and]; rfl,?_⟩
      have hbad:(grid r c (zkK (dvd gg s.pv.length k) s.pv.length k)).all Option.isSome=false:=by
        rw[← Bool.not_eq_true]
        intro ha
        have ha:=zeb.1 ha
        rw[← Bool.not_eq_true] at h2
        apply h2
        rw[zeb]
        intro i j hi hj
        by_cases hiu:i=s.pv.length
        · have:=ha i j hi hj
          unfold zkK at this
          rw[if_neg (fun h=>h.1 hiu)] at this
          exact this
        · unfold dvd; rw[if_neg hiu]; exact (g1 i j hi hj).2
      rw[hbad] at hS
      exact ⟨_,_,_,zaX ..,hbad,hS⟩
    | true =>
      have a2:=zeb.1 h2
      have hzu:∀ j,j < k→dvd gg s.pv.length k s.pv.length j=some 0:=fun j hj=>by
        unfold dvd; rw[if_pos rfl,z1 _ j (Nat.le_refl _) hur hj (by omega),hy,zkZ hy0]
      have hcc:grid r c (zkK (dvd gg s.pv.length k) s.pv.length k)=grid r c (clr (dvd gg s.pv.length k) s.pv.length k):=zaG fun a b ha hb=>zGB o2 a2 hur hk hzu ha hb
      rw[hcc] at hS
      rw[Bool.true_and]
      cases h3:zsU r c (clr (dvd gg s.pv.length k) s.pv.length k) with
      | false =>
        right
        have h3':(grid r c (clr (dvd gg s.pv.length k) s.pv.length k)).all Option.isSome=false:=h3
        rw[h3'] at hS
        exact ⟨rfl,_,_,_,zaX ..,h3',hS⟩
      | true =>
        left
        have h3':(grid r c (clr (dvd gg s.pv.length k) s.pv.length k)).all Option.isSome=true:=h3
        rw[h3'] at hS
        exact ⟨_,rfl,hS⟩
theorem znQ {k0:Nat} {s:ES} (h:elim r c g k0=some s) (hu:¬ s.pv.length < r):∀ j,elim r c g (k0+j)=some s
  | 0=>h
  | j+1=>by
    show (elim r c g (k0+j)).bind _=_
    rw[znQ h hu j]
    show zkF r c (k0+j) s=some s
    unfold zkF; rw[if_neg hu]
theorem elim_none {k0:Nat} (h:elim r c g k0=none):∀ j,elim r c g (k0+j)=none
  | 0=>h
  | j+1=>by
    show (elim r c g (k0+j)).bind _=_
    rw[elim_none h j]; rfl
theorem zBs (hr:r≤24) (hc:c≤200) (hg:zfB r c g):∀ n k s,k+n=c→elim r c g k=some s →
    (∃ f,elim r c g c=some f∧whileO zaz (sst r c k s)=some (.inr ((grid r c f.g).map ro,f.pv,f.fs.map ro,()))) ∨
    (elim r c g c=none∧∃ lo pv fs,lo.length=r * c∧lo.all Option.isSome=false∧whileO zaz (sst r c k s)=some (.inl (List.map ro lo,pv,fs,()))):=by
  intro n
  induction n with
  | zero =>
    intro k s hk e
    have:k=c:=by omega
    subst this
    left
    refine ⟨s,e,zaA ?_⟩
    unfold sst
    simp[zaz]
  | succ n ih =>
    intro k s hk e
    have hkc:k < c:=by omega
    have hi:=zi4 hg (Nat.le_of_lt hkc) e
    by_cases hu:s.pv.length < r
    · rcases spec_step hr hc hi hkc hu with ⟨s',e1,e2⟩ | ⟨e1,lo,pv,fs,l1,l2,e2⟩
      · rw[zbt e2]
        exact ih (k+1) s' (by omega) (by unfold elim; rw[e]; exact e1)
      · right
        refine ⟨?_,lo,pv,fs,l1,l2,zaA e2⟩
        have:elim r c g (k+1)=none:=by unfold elim; rw[e]; exact e1
        have:=elim_none this n
        rw[show k+1+n=c by omega] at this
        exact this
    · left
      have:=znQ e hu (n+1)
      rw[hk] at this
      refine ⟨s,this,zaA ?_⟩
      unfold sst
      simp only[zaz,dlt hkc,cond_true,decide_eq_false (show ¬ (s.pv.length:Int) < (r:Int) by omega),cond_false]
theorem ztV (hr:r≤24) (hc:c≤200) (hg:zfB r c g) :
    (∃ f,elim r c g c=some f∧zbS ⟨r,c,(grid r c g).map ro⟩=some (f.pv,f.fs.map ro,(grid r c f.g).map ro)) ∨
    (elim r c g c=none∧∃ lo pv fs,lo.length=r * c∧lo.all Option.isSome=false∧zbS ⟨r,c,(grid r c g).map ro⟩=some (pv,fs,List.map ro lo)):=by
  rcases zBs hr hc hg c 0 ⟨g,[],[]⟩ (by omega) rfl with ⟨f,e1,e2⟩ | ⟨e1,lo,pv,fs,l1,l2,e2⟩
  · left
    refine ⟨f,e1,?_⟩
    unfold zbS zd7
    exact congrArg (fun x=>Option.bind x _) e2
  · right
    refine ⟨e1,lo,pv,fs,l1,l2,?_⟩
    unfold zbS zd7
    exact congrArg (fun x=>Option.bind x _) e2
end
end Go.Di
namespace Go.Di
theorem ztO (o:Option Rat):zdY (ro o)=some (decide (o=some 0∨o=none)):=zq8 o
theorem zqY {r c:Nat} {xs:List Rt} (hr:r≤24) (hc:c≤200) (hl:xs.length=r * c) {i:Nat} (hi:i < r) (x:Int) :
    zaK ⟨x,c,xs⟩ i=some ((i * c,c),xs):=by
  have h1:i * c≤24 * 200:=Nat.mul_le_mul (by omega) hc
  have h2:(i+1) * c≤24 * 200:=Nat.mul_le_mul (by omega) hc
  have h3:(i+1) * c≤r * c:=Nat.mul_le_mul_right c hi
  have e1:IntKind.i64.wrap ((i:Int) * (c:Int))=((i * c:Nat):Int):=by
    rw[show ((i:Int) * (c:Int))=((i * c:Nat):Int) by simp]; exact wrap_i64 (by omega) (by omega)
  have e0:IntKind.i64.wrap ((i:Int)+1)=((i+1:Nat):Int):=by
    rw[wrap_i64 (by omega) (by omega)]; omega
  have e2:IntKind.i64.wrap (((i+1:Nat):Int) * (c:Int))=(((i+1) * c:Nat):Int):=by
    rw[show (((i+1:Nat):Int) * (c:Int))=(((i+1) * c:Nat):Int) by simp]; exact wrap_i64 (by omega) (by omega)
  have h4:(i+1) * c=i * c+c:=by rw[Nat.add_mul,Nat.one_mul]
  unfold zaK
  simp only[e0,e1,e2,Int.toNat_natCast]
  have hin:inside xs.length (((i * c:Nat):Int),(((i+1) * c:Nat):Int))=true:=by
    unfold inside
    simp only[Bool.and_eq_true,decide_eq_true_iff]
    omega
  rw[hin,show (i+1) * c - i * c=c by omega]; rfl
theorem zNi {α:Type} {xs:List α} {lo len k:Nat} (hk:k < len) (h:lo+len≤xs.length):idx (cut xs lo (lo+len)) (k:Int)=xs[lo+k]? := by
  rw[zku]; unfold cut
  rw[List.getElem?_drop,List.getElem?_take_of_lt (by omega)]
theorem zgt {r c:Nat} {g:Nat→Nat→Option Rat} {i k:Nat} (hi:i < r) (hk:k < c):idx (cut ((grid r c g).map ro) (i * c) (i * c+c)) (k:Int)=some (ro (g i k)):=by
  rw[zNi hk (by rw[List.length_map,zaX,← Nat.succ_mul]; exact Nat.mul_le_mul_right c hi),zet hi hk]
theorem zCh {r c:Nat} {g:Nat→Nat→Option Rat} {i:Nat} (hi:i < r):cut ((grid r c g).map ro) (i * c) (i * c+c)=((List.range c).map (g i)).map ro:=by
  apply List.ext_getElem?
  intro k
  by_cases hk:k < c
  · have h1:=zgt (g:=g) hi hk
    rw[zku] at h1
    rw[h1]
    simp[hk]
  · rw[List.getElem?_eq_none,List.getElem?_eq_none]
    · simp; omega
    · unfold cut; simp; omega
theorem zCi {r c:Nat} {g:Nat→Nat→Option Rat} {i:Nat} (hi:i < r) (hc:c≤200):zbc (cut ((grid r c g).map ro) (i * c) (i * c+c))=some (((List.range c).map (g i)).all Option.isSome):=by
  rw[zCh hi,zpN (by simp; omega)]
section
variable {r c:Nat} {g:Nat→Nat→Option Rat} {k u:Nat}
theorem iel_find (hr:r≤24) (hc:c≤200) (hg:zfB r c g) (hk:k < c) (hu:u≤r) (n v v1 v5 v6:Int) (v2 v4 fs:List Rt) (v3 pv:List Int) :
    zeX n k u v v1 v2 v3 v4 v5 v6 r c ((grid r c g).map ro) pv fs=some (n,(k:Int),((zkB g k (r - u) u:Nat):Int),v,v1,v2,v3,v4,v5,v6,(r:Int),(c:Int),(grid r c g).map ro,pv,fs,()):=by
  unfold zeX
  have key : ∀ s i,i+s=r→whileO zcj (n,(k:Int),(i:Int),v,v1,v2,v3,v4,v5,v6,(r:Int),(c:Int),(grid r c g).map ro,pv,fs,())=some (n,(k:Int),((zkB g k s i:Nat):Int),v,v1,v2,v3,v4,v5,v6,(r:Int),(c:Int),(grid r c g).map ro,pv,fs,()):=by
    intro s
    induction s with
    | zero =>
      intro i hi
      apply zaA
      simp[zcj,zkB,show i=r by omega]
    | succ s ih =>
      intro i hi
      have hir:i < r:=by omega
      by_cases h0:g i k=some 0
      · rw [zbt (y:=(n,(k:Int),((i+1:Nat):Int),v,v1,v2,v3,v4,v5,v6,(r:Int),(c:Int),(grid r c g).map ro,pv,fs,()))]
        · rw[ih (i+1) (by omega),zkB,if_pos h0]
        · simp only[zcj,dlt hir,cond_true,zyI (show r≤1000 by omega) (show c≤1000 by omega) hir hk,Option.bind_some,ztO,h0,zaq hir (show r≤1048576 by omega)]
          simp
      · apply zaA
        have hsm:=(hg i k hir hk).2
        have hn:¬ (g i k=some 0∨g i k=none):=by
          rintro (h | h)
          · exact h0 h
          · rw[h] at hsm; cases hsm
        simp only[zcj,dlt hir,cond_true,zyI (show r≤1000 by omega) (show c≤1000 by omega) hir hk,Option.bind_some,ztO,decide_eq_false hn,cond_false,zkB,if_neg h0]
  exact key (r - u) u (by omega)
theorem iel_swap (hc:c≤200) {p:Nat} (hp:p < r) (hu:u < r) (n k0 v v1 v5 v6:Int) (v2 v4 fs:List Rt) (v3 pv:List Int) :
    L_impl_reduce_2 n k0 (p * c) c (u * c) c c 0 v v1 v2 v3 v4 v5 v6 r c ((grid r c g).map ro) fs pv =
      some (n,k0,v,v1,v2,v3,v4,v5,v6,(r:Int),(c:Int),(grid r c (swp g p u)).map ro,fs,pv,()):=by
  unfold L_impl_reduce_2
  have key := za1 zcY (fun j=>(n,k0,p * c,c,u * c,c,(c:Int),(j:Int),v,v1,v2,v3,v4,v5,v6,(r:Int),(c:Int),(grid r c (fun a b=>if b < j then swp g p u a b else g a b)).map ro,fs,pv,())) c
    (n, k0, v,v1,v2,v3,v4,v5,v6,(r:Int),(c:Int),(grid r c (fun a b=>if b < c then swp g p u a b else g a b)).map ro,fs,pv,()) (fun j hj=>by
      have s1:=zgq (r:=r) (c:=c) (g:=fun a b=>if b < j then swp g p u a b else g a b) (h:=fun a b=>if a=p∧b=j then g u j else if b < j then swp g p u a b else g a b) (o:=g u j) hp hj (fun a b _ _=>rfl)
      have s2:=zgq (r:=r) (c:=c) (g:=fun a b=>if a=p∧b=j then g u j else if b < j then swp g p u a b else g a b) (h:=fun a b=>if b < j+1 then swp g p u a b else g a b) (o:=g p j) hu hj (fun a b _ _=>by
        unfold swp
        by_cases hb:b=j
        · subst hb
          by_cases h1:a=u
          · subst h1
            by_cases h2:a=p
            · subst h2; simp
            · simp[h2]
          · by_cases h2:a=p
            · subst h2; simp[h1]
            · simp[h1,h2]
        · have:(b < j+1)=(b < j):=by rw[eq_iff_iff]; omega
          simp[hb,this])
      simp only[zcY,dlt hj,cond_true,zgt hp hj,zgt hu hj,Int.toNat_natCast,zet hp hj,zet hu hj,Option.bind_some,Nat.lt_irrefl,if_false,s1,s2,zaq hj (show c≤1048576 by omega)]) (by simp[zcY])
  refine Eq.trans ?_ (key.trans ?_)
  · rw[zaG (r:=r) (c:=c) (g:=fun a b=>if b < 0 then swp g p u a b else g a b) (h:=g) (fun a b _ _=>by simp)]; rfl
  · rw[zaG (r:=r) (c:=c) (g:=fun a b=>if b < c then swp g p u a b else g a b) (h:=swp g p u) (fun a b _ hb=>by simp[hb])]
theorem iel_div (hc:c≤200) (hg:zfB r c g) (hk:k < c) (hu:u < r) (n k0 v v1 v5 v6:Int) (v2 v4 fs:List Rt) (v3 pv:List Int) :
    L_impl_reduce_3 n k0 (u * c) c c 0 v v1 v2 v3 v4 v5 v6 r c (ro (g u k)).neg (ro (g u k)).mag (ro (g u k)).den ((grid r c g).map ro) fs pv =
      some (n,k0,u * c,c,v,v1,v2,v3,v4,v5,v6,(r:Int),(c:Int),(grid r c (dvd g u k)).map ro,fs,pv,()):=by
  unfold L_impl_reduce_3
  have key := za1 zcX (fun j=>(n,k0,u * c,c,(c:Int),(j:Int),v,v1,v2,v3,v4,v5,v6,(r:Int),(c:Int),(ro (g u k)).neg,(ro (g u k)).mag,(ro (g u k)).den,(grid r c (fun a b=>if b < j then dvd g u k a b else g a b)).map ro,fs,pv,())) c
    (n, k0,u * c,c,v,v1,v2,v3,v4,v5,v6,(r:Int),(c:Int),(grid r c (fun a b=>if b < c then dvd g u k a b else g a b)).map ro,fs,pv,()) (fun j hj=>by
      have s1:=zgq (r:=r) (c:=c) (g:=fun a b=>if b < j then dvd g u k a b else g a b) (h:=fun a b=>if b < j+1 then dvd g u k a b else g a b) (o:=divO (g u j) (g u k)) hu hj (fun a b _ _=>by
        unfold dvd
        by_cases hb:b=j
        · subst hb
          by_cases h1:a=u
          · subst h1; simp
          · simp[h1]
        · have:(b < j+1)=(b < j):=by rw[eq_iff_iff]; omega
          simp[hb,this])
      have hd:=impl_divO (hg u j hu hj).1 (hg u k hu hk).1
      simp only[zcX,dlt hj,cond_true,zgt hu hj,Int.toNat_natCast,zet hu hj,Option.bind_some,Nat.lt_irrefl,if_false]
      show ((zf0 (ro (g u j)) (ro (g u k))).bind _)=_
      simp only[hd,Option.bind_some,s1,zaq hj (show c≤1048576 by omega)]) (by simp[zcX])
  refine Eq.trans ?_ (key.trans ?_)
  · rw[zaG (r:=r) (c:=c) (g:=fun a b=>if b < 0 then dvd g u k a b else g a b) (h:=g) (fun a b _ _=>by simp)]; rfl
  · rw[zaG (r:=r) (c:=c) (g:=fun a b=>if b < c then dvd g u k a b else g a b) (h:=dvd g u k) (fun a b _ hb=>by simp[hb])]
theorem iel_clear1 (hc:c≤200) (hg:∀ i k,i < r→k < c→Oks (g i k)) {i:Nat} (hi:i < r) (hu:u < r) (hiu:i≠u) {f:Option Rat} (hf:Oks f) (n k0 t t1 v v1 v5 v6:Int) (v2 v4 fs:List Rt) (v3 pv:List Int) :
    L_impl_reduce_5 n k0 (u * c) c (i * c) c t t1 c 0 v v1 v2 v3 v4 v5 v6 r c (ro f).neg (ro f).mag (ro f).den ((grid r c g).map ro) fs pv =
      some (n,k0,u * c,c,i * c,c,t,t1,v,v1,v2,v3,v4,v5,v6,(r:Int),(c:Int),(grid r c (fun a b=>if a=i then zpn (g i b) (zmy f (g u b)) else g a b)).map ro,fs,pv,()):=by
  unfold L_impl_reduce_5
  have key := za1 zcV (fun j=>(n,k0,u * c,c,i * c,c,t,t1,(c:Int),(j:Int),v,v1,v2,v3,v4,v5,v6,(r:Int),(c:Int),(ro f).neg,(ro f).mag,(ro f).den,(grid r c (fun a b=>if a=i∧b < j then zpn (g i b) (zmy f (g u b)) else g a b)).map ro,fs,pv,())) c
    (n, k0,u * c,c,i * c,c,t,t1,v,v1,v2,v3,v4,v5,v6,(r:Int),(c:Int),(grid r c (fun a b=>if a=i∧b < c then zpn (g i b) (zmy f (g u b)) else g a b)).map ro,fs,pv,()) (fun j hj=>by
      have s1:=zgq (r:=r) (c:=c) (g:=fun a b=>if a=i∧b < j then zpn (g i b) (zmy f (g u b)) else g a b) (h:=fun a b=>if a=i∧b < j+1 then zpn (g i b) (zmy f (g u b)) else g a b) (o:=zpn (g i j) (zmy f (g u j))) hi hj (fun a b _ _=>by
        by_cases hb:b=j
        · subst hb
          by_cases h1:a=i
          · subst h1; simp
          · simp[h1]
        · have:(b < j+1)=(b < j):=by rw[eq_iff_iff]; omega
          simp[hb,this])
      have hui:u≠i:=fun e=>hiu e.symm
      simp only[zcV,dlt hj,cond_true,zgt hu hj,zgt hi hj,Int.toNat_natCast,zet hu hj,zet hi hj,Option.bind_some,Nat.lt_irrefl,and_false,if_false,hui,false_and]
      show ((zen (ro f) (ro (g u j))).bind _)=_
      simp only[zEq hf (hg u j hu hj),Option.bind_some,zEn (hg i j hi hj) (zwz (o:=f) (p:=g u j)),s1,zaq hj (show c≤1048576 by omega)]) (by simp[zcV])
  refine Eq.trans ?_ (key.trans ?_)
  · rw[zaG (r:=r) (c:=c) (g:=fun a b=>if a=i∧b < 0 then zpn (g i b) (zmy f (g u b)) else g a b) (h:=g) (fun a b _ _=>by simp)]; rfl
  · rw[zaG (r:=r) (c:=c) (g:=fun a b=>if a=i∧b < c then zpn (g i b) (zmy f (g u b)) else g a b) (h:=fun a b=>if a=i then zpn (g i b) (zmy f (g u b)) else g a b) (fun a b _ hb=>by simp[hb])]
def rowB (c:Nat) (g:Nat→Nat→Option Rat) (i:Nat):Bool:=((List.range c).map (g i)).all Option.isSome
theorem zmK {i:Nat}:rowB c g i=true↔∀ j,j < c→(g i j).isSome=true:=by
  unfold rowB
  rw[List.all_eq_true]
  constructor
  · intro h j hj; exact h _ (List.mem_map.2 ⟨j,List.mem_range.2 hj,rfl⟩)
  · intro h o ho; obtain ⟨j,hj,rfl⟩:=List.mem_map.1 ho; exact h j (List.mem_range.1 hj)
theorem zCf:(List.range r).all (rowB c g)=zsU r c g:=by
  rw[Bool.eq_iff_iff,List.all_eq_true,zeb]
  constructor
  · intro h i j hi hj; exact zmK.1 (h i (List.mem_range.2 hi)) j hj
  · intro h i hi; exact zmK.2 fun j hj=>h i j (List.mem_range.1 hi) hj
theorem iel_clear (hr:r≤24) (hc:c≤200) (hg:∀ i k,i < r→k < c→Oks (g i k)) (hall:∀ i k,i < r→k < c→(g i k).isSome=true) (hu:u < r) (hk:k < c) (v v1 v5 v6:Int) (v2 v4 fs:List Rt) (v3 pv:List Int) :
    L_impl_reduce_4 u k (u * c) c r 0 v v1 v2 v3 v4 v5 v6 r c ((grid r c g).map ro) fs pv =
      some (cond (zsU r c (clr g u k)) (.inr ((u:Int),(k:Int),v,v1,v2,v3,v4,v5,v6,(r:Int),(c:Int),(grid r c (clr g u k)).map ro,fs,pv,())) (.inl (false,0,0,[],[],[],()))):=by
  unfold L_impl_reduce_4
  rw[← zCf]
  have hgi:∀ i,clr g u k i=(fun b=>clr g u k i b):=fun _=>rfl
  have key := stop_loop (S:=zcW) (fun i=>((u:Int),(k:Int),u * c,c,(r:Int),(i:Int),v,v1,v2,v3,v4,v5,v6,(r:Int),(c:Int),(grid r c (fun a b=>if a < i then clr g u k a b else g a b)).map ro,fs,pv,())) r (rowB c (clr g u k))
    (.inl (false,0,0,[],[],[],())) (.inr ((u:Int),(k:Int),v,v1,v2,v3,v4,v5,v6,(r:Int),(c:Int),(grid r c (clr g u k)).map ro,fs,pv,())) (fun i hi _=>by
      have same:(∀ b,clr g u k i b=g i b)→grid r c (fun a b=>if a < i+1 then clr g u k a b else g a b)=grid r c (fun a b=>if a < i then clr g u k a b else g a b):=fun h=>zaG fun a b _ _=>by
        by_cases h1:a < i
        · rw[if_pos h1,if_pos (by omega)]
        · rw[if_neg h1]
          by_cases h2:a=i
          · subst h2; rw[if_pos (by omega),h]
          · rw[if_neg (by omega)]
      have whole:(∀ b,clr g u k i b=g i b)→rowB c (clr g u k) i=true:=fun h=>zmK.2 fun j hj=>by rw[h]; exact hall i j hi hj
      have hrow:=zqY (xs:=(grid r c (fun a b=>if a < i then clr g u k a b else g a b)).map ro) hr hc (by rw[List.length_map,zaX]) hi r
      simp only[zcW,dlt hi,cond_true,hrow,Option.bind_some]
      by_cases hiu:i=u
      · subst hiu
        have e:∀ b,clr g i k i b=g i b:=fun b=>by unfold clr; rw[if_pos rfl]
        rw[same e,whole e]
        simp only[beq_self_eq_true,cond_true,zaq hi (show r≤1048576 by omega)]
      · have hb : ((i:Int)==(u:Int))=false:=by
          rw[beq_eq_false_iff_ne]; omega
        have hui:(if u < i then clr g u k u k else g u k)=g u k:=by
          split
          · unfold clr; rw[if_pos rfl]
          · rfl
        have gk:idx (cut ((grid r c (fun a b=>if a < i then clr g u k a b else g a b)).map ro) (i * c) (i * c+c)) (k:Int)=some (ro (g i k)):=by
          rw[zgt hi hk,if_neg (Nat.lt_irrefl i)]
        have gg:((grid r c (fun a b=>if a < i then clr g u k a b else g a b)).map ro)[i * c+k]? = some (ro (g i k)):=by
          rw[zet hi hk,if_neg (Nat.lt_irrefl i)]
        simp only[hb,cond_false,gk,Int.toNat_natCast,gg,Option.bind_some,ztO]
        have hnn:g i k≠none:=fun e=>by have:=hall i k hi hk; rw[e] at this; cases this
        by_cases h0:g i k=some 0
        · have e:∀ b,clr g u k i b=g i b:=fun b=>by unfold clr; rw[if_neg hiu,if_pos h0]
          rw[decide_eq_true (.inl h0),cond_true,same e,whole e]
          simp only[cond_true,zaq hi (show r≤1048576 by omega)]
        · rw [decide_eq_false (by rintro (h | h); exact h0 h; exact hnn h),cond_false]
          have h1:=iel_clear1 (u:=u) (g:=fun a b=>if a < i then clr g u k a b else g a b) hc (fun a b h1 h2=>by
            show Oks (if a < i then clr g u k a b else g a b)
            split
            · exact zCA hg h1 h2
            · exact hg a b h1 h2) hi hu hiu (hg i k hi hk) u k r i v v1 v5 v6 v2 v4 fs v3 pv
          have hgrid:grid r c (fun a b=>if a=i then zpn (if i < i then clr g u k i b else g i b) (zmy (g i k) (if u < i then clr g u k u b else g u b)) else if a < i then clr g u k a b else g a b)=grid r c (fun a b=>if a < i+1 then clr g u k a b else g a b):=zaG fun a b _ _=>by
            by_cases h2:a=i
            · subst h2
              have hsu:(if u < a then clr g u k u b else g u b)=g u b:=by
                split
                · unfold clr; rw[if_pos rfl]
                · rfl
              rw[if_pos rfl,if_pos (show a < a+1 by omega),if_neg (Nat.lt_irrefl a),hsu]
              unfold clr; rw[if_neg hiu,if_neg h0]
            · rw[if_neg h2]
              have:(a < i+1)=(a < i):=by rw[eq_iff_iff]; omega
              simp only[this]
          rw[hgrid] at h1
          rw[h1]
          simp only[Option.bind_some]
          rw[zCi hi hc]
          have hrb:(((List.range c).map fun b=>if i < i+1 then clr g u k i b else g i b).all Option.isSome)=rowB c (clr g u k) i:=by
            unfold rowB; congr 2; funext b; rw[if_pos (by omega)]
          rw[hrb,Option.bind_some]
          cases rowB c (clr g u k) i with
          | false=>rfl
          | true=>simp only[Bool.not_true,cond_false,cond_true,zaq hi (show r≤1048576 by omega)]) (fun _=>by
      have e:grid r c (fun a b=>if a < r then clr g u k a b else g a b)=grid r c (clr g u k):=zaG fun a b h _=>if_pos h
      simp[zcW,e])
  refine Eq.trans ?_ key
  rw[zaG (r:=r) (c:=c) (g:=fun a b=>if a < 0 then clr g u k a b else g a b) (h:=g) (fun a b _ _=>if_neg (by omega))]; rfl
end
end Go.Di
namespace Go.Di
theorem zQO {x:Option Int} {left:Int} {n:Nat} {k:Int→Option Bool} (h:SzR x left n) (hk:∀ r:Int,0≤r→r+n=left→k r=some true) :
    (x.bind fun r=>cond (decide (r < 0)) (some true) (k r))=some true:=by
  rcases h with rfl | ⟨r,h0,h1,rfl⟩
  · rfl
  · have:decide (r < 0)=false:=by simpa using h0
    simp only[Option.bind_some,this,cond_false,hk r h0 h1]
end Go.Di
namespace Go.Di
end Go.Di
namespace Go.Di
section
variable {r c:Nat} {g:Nat→Nat→Option Rat} {k:Nat}
def ist (r c k:Nat) (s:ES):Int × Int × Int × Int × (List Rt) × (List Int) × (List Rt) × Int × Int × Int × Int × (List Rt) × (List Int) × (List Rt) × Unit :=
  ((s.pv.length:Int),(k:Int),0,0,[],[],[],(r:Int),(c:Int),(r:Int),(c:Int),(grid r c s.g).map ro,s.pv,s.fs.map ro,())
theorem impl_step {s:ES} (hr:r≤24) (hc:c≤200) (h:EInv r c k s) (hk:k < c) (hur:s.pv.length < r) :
    (∃ s',zkF r c k s=some s'∧zaR (ist r c k s)=some (.inl (ist r c (k+1) s'))) ∨
    (zkF r c k s=none∧zaR (ist r c k s)=some (.inr (.inl (false,0,0,[],[],[],())))):=by
  unfold zkF
  rw[if_pos hur]
  obtain ⟨pl,ph⟩:=znk s.g k (r - s.pv.length) s.pv.length
  have hfind:=iel_find (u:=s.pv.length) hr hc h.good hk (Nat.le_of_lt hur) s.pv.length 0 0 r c [] [] (s.fs.map ro) [] s.pv
  have hne:zkB s.g k (r - s.pv.length) s.pv.length < s.pv.length+(r - s.pv.length)→s.g (zkB s.g k (r - s.pv.length) s.pv.length) k≠some 0:=znj s.g k _ _
  generalize zkB s.g k (r - s.pv.length) s.pv.length=p at *
  simp only
  have hdec:decide ((s.pv.length:Int) < (r:Int))=true:=decide_eq_true (by omega)
  have fl1:zak (Nat.ble ((s.fs.map ro).length+1) zan)=some ():=zm7 (by rw[List.length_map]; have:=h.fslen; omega)
  have fl2:zak (Nat.ble ((s.fs.map ro++[ro (some (-1))]).length+1) zan)=some ():=zm7 (by rw[List.length_append,List.length_map]; have:=h.fslen; simp; omega)
  have pl1:zak (Nat.ble (s.pv.length+1) zan)=some ():=zm7 (by omega)
  by_cases hpr:p=r
  · subst hpr
    left
    rw[if_pos rfl]
    refine ⟨s,rfl,?_⟩
    unfold ist
    simp only[zaR,dlt hk,cond_true,hdec,hfind,Option.bind_some,beq_self_eq_true,zaq hk (show c≤1048576 by omega)]
  · rw [if_neg hpr]
    have hp:p < r:=by omega
    have hne:=hne (by omega)
    have g1:=zmE (u:=s.pv.length) h.good hp hur
    have z1:=zmD (c:=c) hur hp pl h.zero
    have e1:swp s.g p s.pv.length s.pv.length k=s.g p k:=by
      unfold swp
      split
      · rename_i e; rw[e]
      · rw[if_pos rfl]
    have hself:p=s.pv.length→swp s.g p s.pv.length=s.g:=fun e=>by
      subst e; funext a b; unfold swp; split
      · rename_i h; rw[h]
      · rfl
    have hsw:=iel_swap (g:=s.g) (r:=r) (c:=c) hc hp hur s.pv.length k 0 0 r c [] [] (s.fs.map ro++[ro (some (-1))]) [] s.pv
    have hrow1:=zqY (xs:=(grid r c s.g).map ro) hr hc (by rw[List.length_map,zaX]) hp r
    have hrow2:=zqY (xs:=(grid r c s.g).map ro) hr hc (by rw[List.length_map,zaX]) hur r
    generalize swp s.g p s.pv.length=gg at *
    obtain ⟨y,hy⟩:=Option.isSome_iff_exists.1 (g1 s.pv.length k hur hk).2
    have hy0:y≠0:=fun e0=>hne (by rw[← e1,hy,e0])
    have hbeq:((p:Int)==(r:Int))=false:=by rw[beq_eq_false_iff_ne]; omega
    have hrow3:=zqY (xs:=(grid r c gg).map ro) hr hc (by rw[List.length_map,zaX]) hur r
    have hat1:=zgt (r:=r) (c:=c) (g:=gg) hur hk
    have hat2:=zet (r:=r) (c:=c) (g:=gg) hur hk
    have hdivl:=fun fs=>iel_div (r:=r) (c:=c) (g:=gg) hc g1 hk hur s.pv.length k 0 0 r c [] [] fs [] s.pv
    have o2:∀ i j,i < r→j < c→Oks (dvd gg s.pv.length k i j):=fun i j hi hj=>zuh g1 hi hj
    have hrowc:=zCi (r:=r) (c:=c) (g:=dvd gg s.pv.length k) hur hc
    have htop:(((List.range c).map (dvd gg s.pv.length k s.pv.length)).all Option.isSome)=zsU r c (dvd gg s.pv.length k):=by
      rw[Bool.eq_iff_iff,zeb]
      have hb:=zmK (c:=c) (g:=dvd gg s.pv.length k) (i:=s.pv.length)
      refine hb.trans ⟨fun ha i j hi hj=>?_,fun ha j hj=>ha _ j hur hj⟩
      by_cases hiu:i=s.pv.length
      · rw[hiu]; exact ha j hj
      · unfold dvd; rw[if_neg hiu]; exact (g1 i j hi hj).2
    rw[htop] at hrowc
    have hS:zaR (ist r c k s)=cond (!zsU r c (dvd gg s.pv.length k)) (some (.inr (.inl (false,0,0,[],[],[],()))))
        ((L_impl_reduce_4 s.pv.length k (s.pv.length * c) c r 0 0 0 [] [] [] r c r c ((grid r c (dvd gg s.pv.length k)).map ro) (((s.fs++if p≠s.pv.length then [some (-1)] else [])++[gg s.pv.length k]).map ro) s.pv).bind fun r1 =>
        match r1 with
        | .inl (t,v27,v28,v29,v30,v31,_)=>some (.inr (.inl (t,v27,v28,v29,v30,v31,())))
        | .inr (used3,c3,v32,v33,v34,v35,v36,v37,v38,v39,v40,xs9,xs10,xs11,_) =>
          (zak (Nat.ble (xs11.length+1) zan)).bind fun _ =>
          some (.inl (IntKind.i64.wrap (used3+1),IntKind.i64.wrap (c3+1),v32,v33,v34,v35,v36,v37,v38,v39,v40,xs9,xs11++([c3]:List Int),xs10,()))):=by
      by_cases hpu:p=s.pv.length
      · have hbne:((p:Int) != (s.pv.length:Int))=false:=by rw[hpu]; simp
        rw[if_neg (fun h=>h hpu),List.append_nil,List.map_append,List.map_singleton]
        have hg:=hself hpu
        unfold ist
        simp only[zaR,dlt hk,cond_true,hdec,hfind,Option.bind_some,hbeq,cond_false,hbne]
        rw[← hg]
        simp only[hrow3,hat1,hat2,Int.toNat_natCast,Option.bind_some,fl1,hdivl,hrowc]
        rfl
      · have hbne:((p:Int) != (s.pv.length:Int))=true:=by
          rw[bne_iff_ne]; omega
        have hm1:zbs (-1)=some (ro (some (-1))):=by
          have:=zlk (n := -1) (by omega) (by omega)
          rw[this]; simp
        rw[if_pos hpu,List.map_append,List.map_append,List.map_singleton,List.map_singleton]
        unfold ist
        simp only[zaR,dlt hk,cond_true,hdec,hfind,Option.bind_some,hbeq,cond_false,hbne,hm1,fl1,hrow1,hrow2,hsw,hrow3,hat1,hat2,Int.toNat_natCast,fl2,hdivl,hrowc]
        rfl
    cases h2:zsU r c (dvd gg s.pv.length k) with
    | false =>
      right
      rw[h2] at hS
      exact ⟨by rw[Bool.false_and]; rfl,hS⟩
    | true =>
      have a2:=zeb.1 h2
      rw[h2] at hS
      have hcl:=iel_clear (g:=dvd gg s.pv.length k) hr hc o2 a2 hur hk 0 0 r c [] [] (((s.fs++if p≠s.pv.length then [some (-1)] else [])++[gg s.pv.length k]).map ro) [] s.pv
      rw[hcl] at hS
      rw[Bool.true_and]
      cases h3:zsU r c (clr (dvd gg s.pv.length k) s.pv.length k) with
      | false =>
        right
        rw[h3] at hS
        exact ⟨rfl,hS⟩
      | true =>
        left
        rw[h3] at hS
        refine ⟨_,rfl,hS.trans ?_⟩
        unfold ist
        simp only[Bool.not_true,cond_false,cond_true,Option.bind_some,pl1,zaq hur (show r≤1048576 by omega),zaq hk (show c≤1048576 by omega),List.length_append,List.length_singleton]
theorem zEu (hr:r≤24) (hc:c≤200) (hg:zfB r c g):∀ n k s,k+n=c→elim r c g k=some s →
    (∃ f,elim r c g c=some f∧whileO zaR (ist r c k s)=some (.inr (0,0,[],[],[],(r:Int),(c:Int),(grid r c f.g).map ro,f.pv,f.fs.map ro,()))) ∨
    (elim r c g c=none∧whileO zaR (ist r c k s)=some (.inl (false,0,0,[],[],[],()))):=by
  intro n
  induction n with
  | zero =>
    intro k s hk e
    have:k=c:=by omega
    subst this
    left
    refine ⟨s,e,zaA ?_⟩
    unfold ist
    simp[zaR]
  | succ n ih =>
    intro k s hk e
    have hkc:k < c:=by omega
    have hi:=zi4 hg (Nat.le_of_lt hkc) e
    by_cases hu:s.pv.length < r
    · rcases impl_step hr hc hi hkc hu with ⟨s',e1,e2⟩ | ⟨e1,e2⟩
      · rw[zbt e2]
        exact ih (k+1) s' (by omega) (by unfold elim; rw[e]; exact e1)
      · right
        refine ⟨?_,zaA e2⟩
        have:elim r c g (k+1)=none:=by unfold elim; rw[e]; exact e1
        have:=elim_none this n
        rw[show k+1+n=c by omega] at this
        exact this
    · left
      have:=znQ e hu (n+1)
      rw[hk] at this
      refine ⟨s,this,zaA ?_⟩
      unfold ist
      simp only[zaR,dlt hkc,cond_true,decide_eq_false (show ¬ (s.pv.length:Int) < (r:Int) by omega),cond_false]
theorem zvi (hr:r≤24) (hc:c≤200) (hg:zfB r c g) :
    (∃ f,elim r c g c=some f∧zdW ⟨r,c,(grid r c g).map ro⟩=some (⟨r,c,(grid r c f.g).map ro,f.pv,f.fs.map ro⟩,true)) ∨
    (elim r c g c=none∧zdW ⟨r,c,(grid r c g).map ro⟩=some (⟨0,0,[],[],[]⟩,false)):=by
  have hcp:zcg ((grid r c g).map ro)=some ((grid r c g).map ro):=zrN (by
    have:r * c≤24 * 200:=Nat.mul_le_mul hr hc
    refine ⟨by rw[List.length_map,zaX]; omega,fun x hx=>?_⟩
    obtain ⟨o,ho,rfl⟩:=List.mem_map.1 hx
    obtain ⟨i,j,hi,hj,rfl⟩:=zpR ho
    exact zKR (hg i j hi hj).1)
  rcases zEu hr hc hg c 0 ⟨g,[],[]⟩ (by omega) rfl with ⟨f,e1,e2⟩ | ⟨e1,e2⟩
  · left
    refine ⟨f,e1,?_⟩
    unfold zdW zeY
    rw[hcp,Option.bind_some]
    exact congrArg (fun x=>Option.bind x _) e2
  · right
    refine ⟨e1,?_⟩
    unfold zdW zeY
    rw[hcp,Option.bind_some]
    exact congrArg (fun x=>Option.bind x _) e2
end
def gof (q:List Rat) (c:Nat):Nat→Nat→Option Rat:=fun i k=>q[i * c+k]?
theorem zHA {q:List Rat} {r c:Nat} (hl:q.length=r * c):(grid r c (gof q c)).map ro=q.map rq:=by
  rw[zLZ]
  congr 1
  apply List.ext_getElem?
  intro j
  by_cases hj:j < r * c
  · obtain ⟨h1,h2,h3⟩:=zkY hj
    rw[zkx _ hj]
    unfold gof
    rw[h3,List.getElem?_map]
    have:j < q.length:=by omega
    simp[this]
  · rw[List.getElem?_eq_none (by rw[zaX]; omega),List.getElem?_eq_none (by rw[List.length_map]; omega)]
theorem zHB {q:List Rat} {r c:Nat} (hl:q.length=r * c) (hf:Fits q):zfB r c (gof q c):=fun i k hi hk=>by
  have h:i * c+k < q.length:=by rw[hl]; exact zqJ hi hk
  unfold gof
  exact ⟨hf.get _,by simp[h]⟩
end Go.Di
namespace Go.Di
end Go.Di
namespace Go.Di
theorem zEH {r c:Nat} {g:Nat→Nat→Option Rat} (hr:r≤24) (hc:c≤200) (h:zfB r c g):zcK ((grid r c g).map ro)=some true:=by
  have hp:r * c≤24 * 200:=Nat.mul_le_mul hr hc
  rw[zm0 (by rw[zaX]; omega)]
  congr 1
  exact zeb.2 fun i k hi hk=>(h i k hi hk).2
/-! ### Determinants -/
def zue (l:List (Option Rat)):Nat→Option Rat
  | 0=>some 1
  | i+1=>zmy (zue l i) (l[i]?.getD none)
end Go.Di
namespace Go.Di
/-! ### Loops that run alike,loops that keep something -/
theorem zny {σ τ ρ θ:Type} {S:σ→Option (σ ⊕ ρ)} {T:τ→Option (τ ⊕ θ)} (E:τ→σ) (F:θ→ρ) (h:∀ t,S (E t)=(T t).map (Sum.map E F)):∀ (n:Nat) (t:τ),zif S n (E t)=(zif T n t).map F
  | 0,_=>rfl
  | n + 1,t=>by
    unfold zif
    rw[h t]
    cases ht:T t with
    | none=>rfl
    | some r =>
      cases r with
      | inl t'=>exact zny E F h n t'
      | inr y=>rfl
theorem whileO_map {σ τ ρ θ:Type} {S:σ→Option (σ ⊕ ρ)} {T:τ→Option (τ ⊕ θ)} (E:τ→σ) (F:θ→ρ) (h:∀ t,S (E t)=(T t).map (Sum.map E F)) (t:τ):whileO S (E t)=(whileO T t).map F:=by
  cases ht:whileO T t with
  | some y =>
    obtain ⟨n,hn⟩:=zdQ.1 ht
    exact zdQ.2 ⟨n,by rw[zny E F h,hn]; rfl⟩
  | none =>
    cases hs:whileO S (E t) with
    | none=>rfl
    | some r =>
      obtain ⟨n,hn⟩:=zdQ.1 hs
      rw[zny E F h] at hn
      cases hy:zif T n t with
      | none=>rw[hy] at hn; cases hn
      | some y=>rw[zdQ.2 ⟨n,hy⟩] at ht; cases ht
theorem ztP {τ θ:Type} {T:τ→Option (τ ⊕ θ)} (I:τ→Prop) (Q:θ→Prop) (h1:∀ t t',I t→T t=some (.inl t')→I t') (h2:∀ t y,I t→T t=some (.inr y)→Q y) {t:τ} {y:θ} (hi:I t) (h:whileO T t=some y):Q y:=by
  obtain ⟨n,hn⟩:=zdQ.1 h
  clear h
  induction n generalizing t with
  | zero=>cases hn
  | succ n ih =>
    unfold zif at hn
    cases ht:T t with
    | none=>rw[ht] at hn; cases hn
    | some r =>
      rw[ht] at hn
      cases r with
      | inl t'=>exact ih (h1 t t' hi ht) hn
      | inr z=>cases hn; exact h2 t y hi ht
/-! ### Taking the numbers away -/
abbrev ers (l:List TRt):List Rt:=l.map TRt.er
theorem zEL (e:TRt):(TRt.er e).neg=e.neg:=rfl
theorem zEM (e:TRt):(TRt.er e).mag=e.mag.xs:=rfl
theorem zEN (e:TRt):(TRt.er e).den=e.den.xs:=rfl
theorem zNo (r:Rt) (a b:Nat):TRt.er ⟨r.neg,⟨a,r.mag⟩,⟨b,r.den⟩⟩=r:=rfl
theorem zdk {α β γ:Type} (o:Option α) (f:α→β) (g:β→Option γ):(o.map f).bind g=o.bind fun a=>g (f a):=by cases o<;>rfl
theorem zd8 {α β γ:Type} (o:Option α) (g:α→Option β) (f:β→γ):(o.bind g).map f=o.bind fun a=>(g a).map f:=by cases o<;>rfl
theorem zgZ {α β:Type} (b:Bool) (x y:Option α) (f:α→β):(cond b x y).map f=cond b (x.map f) (y.map f):=by cases b<;>rfl
theorem zhx {α β:Type} (f:α→β) (l:List α) (i:Int):idx (l.map f) i=(idx l i).map f:=by
  unfold idx; split
  · rw[List.getElem?_map]
  · rfl
theorem zi6 {α β:Type} (f:α→β) (l:List α) (a b:Nat):cut (l.map f) a b=(cut l a b).map f:=by simp[cut,List.map_take,List.map_drop]
theorem ztT:∀ (n:Nat) (l:List Rt),(zmC n l).map TRt.er=l
  | _,[]=>rfl
  | n,r :: l=>by simp only[zmC,List.map_cons,ztT (n+2) l]; rfl
theorem zpE {α β:Type} (f:α→β) (l:List α) (i:Nat) (a:α):(l.set i a).map f=(l.map f).set i (f a):=List.map_set
theorem zCg (r c i:Int) (l:List TRt):zaK ⟨r,c,ers l⟩ i=(zaL ⟨r,c,l⟩ i).map fun p=>(p.1,ers p.2):=by
  simp only[zaK,zaL,List.length_map,zd8,Option.map_some]
theorem zRL (r c i k:Int) (l:List TRt):zbq ⟨r,c,ers l⟩ i k=(za6 ⟨r,c,l⟩ i k).map fun e=>(TRt.er e,ers l):=by
  simp only[zbq,za6,zhx,zdk,zd8,Option.map_some]
  generalize IntKind.i64.wrap (IntKind.i64.wrap (i * c)+k)=j
  unfold idx
  split
  · rw[List.getElem?_map]
    cases l[j.toNat]? <;> rfl
  · rfl
/-! ### The loops of the reduction -/
abbrev F5:Int × Int × Nat × Nat × Nat × Nat × Int × Int × Int × Int × Int × Int × Int × Int × (List TRt) × (List TRt) × (List Int) × (List TRt) × (List Int) × (List TRt) × Nat × Unit→Int × Int × Nat × Nat × Nat × Nat × Int × Int × Int × Int × (List Rt) × (List Int) × (List Rt) × Int × Int × Int × Int × (List Rt) × (List Rt) × (List Int) × Unit :=
  fun (used,c,lo,len,lo1,len1,t,t1,v,v1,v2,v3,v4,v5,xs,xs1,xs2,xs3,xs4,xs5,_,_)=>(used,c,lo,len,lo1,len1,t,t1,v,v1,ers xs3,xs4,ers xs5,v2,v3,v4,v5,ers xs,ers xs1,xs2,())
theorem zL2 (used c:Int) (lo len lo1 len1:Nat) (t t1 t2 t3 v v1 v2 v3 v4 v5:Int) (v6:Bool) (v7 v8:Tk) (xs xs1:List TRt) (xs2:List Int) (xs3:List TRt) (xs4:List Int) (xs5:List TRt) (np:Nat) :
    L_impl_reduce_5 used c lo len lo1 len1 t t1 t2 t3 v v1 (ers xs3) xs4 (ers xs5) v2 v3 v4 v5 v6 v7.xs v8.xs (ers xs) (ers xs1) xs2=(zfc used c lo len lo1 len1 t t1 t2 t3 v v1 v2 v3 v4 v5 v6 v7 v8 xs xs1 xs2 xs3 xs4 xs5 np).map F5 :=
  whileO_map (S:=zcV) (T:=zbx) (fun (used,c,lo,len,lo1,len1,t,t1,t2,t3,v,v1,v2,v3,v4,v5,v6,v7,v8,xs,xs1,xs2,xs3,xs4,xs5,_,_)=>(used,c,lo,len,lo1,len1,t,t1,t2,t3,v,v1,ers xs3,xs4,ers xs5,v2,v3,v4,v5,v6,v7.xs,v8.xs,ers xs,ers xs1,xs2,())) F5
    (fun (used,c,lo,len,lo1,len1,t,t1,t2,t3,v,v1,v2,v3,v4,v5,v6,v7,v8,xs,xs1,xs2,xs3,xs4,xs5,np,_)=>by
      simp only[zcV,zbx,zgZ,zd8,zdk,zhx,zi6,List.getElem?_map,Option.map_some,Sum.map_inl,Sum.map_inr,zpE,zNo]) (used,c,lo,len,lo1,len1,t,t1,t2,t3,v,v1,v2,v3,v4,v5,v6,v7,v8,xs,xs1,xs2,xs3,xs4,xs5,np,())
abbrev F3:Int × Int × Nat × Nat × Int × Int × Int × Int × Int × Int × (List TRt) × (List TRt) × (List Int) × (List TRt) × (List Int) × (List TRt) × Nat × Unit→Int × Int × Nat × Nat × Int × Int × (List Rt) × (List Int) × (List Rt) × Int × Int × Int × Int × (List Rt) × (List Rt) × (List Int) × Unit :=
  fun (used,c,lo,len,v,v1,v2,v3,v4,v5,xs,xs1,xs2,xs3,xs4,xs5,_,_)=>(used,c,lo,len,v,v1,ers xs3,xs4,ers xs5,v2,v3,v4,v5,ers xs,ers xs1,xs2,())
theorem zCq (used c:Int) (lo len:Nat) (t t1 v v1 v2 v3 v4 v5:Int) (v6:Bool) (v7 v8:Tk) (xs xs1:List TRt) (xs2:List Int) (xs3:List TRt) (xs4:List Int) (xs5:List TRt) (np:Nat) :
    L_impl_reduce_3 used c lo len t t1 v v1 (ers xs3) xs4 (ers xs5) v2 v3 v4 v5 v6 v7.xs v8.xs (ers xs) (ers xs1) xs2=(zd2 used c lo len t t1 v v1 v2 v3 v4 v5 v6 v7 v8 xs xs1 xs2 xs3 xs4 xs5 np).map F3 :=
  whileO_map (S:=zcX) (T:=zbz) (fun (used,c,lo,len,t,t1,v,v1,v2,v3,v4,v5,v6,v7,v8,xs,xs1,xs2,xs3,xs4,xs5,_,_)=>(used,c,lo,len,t,t1,v,v1,ers xs3,xs4,ers xs5,v2,v3,v4,v5,v6,v7.xs,v8.xs,ers xs,ers xs1,xs2,())) F3
    (fun (used,c,lo,len,t,t1,v,v1,v2,v3,v4,v5,v6,v7,v8,xs,xs1,xs2,xs3,xs4,xs5,np,_)=>by
      simp only[zcX,zbz,zgZ,zd8,zdk,zhx,zi6,List.getElem?_map,Option.map_some,Sum.map_inl,Sum.map_inr,zpE,zNo]) (used,c,lo,len,t,t1,v,v1,v2,v3,v4,v5,v6,v7,v8,xs,xs1,xs2,xs3,xs4,xs5,np,())
abbrev F2:Int × Int × Int × Int × Int × Int × Int × Int × (List TRt) × (List TRt) × (List Int) × (List TRt) × (List Int) × (List TRt) × Nat × Unit→Int × Int × Int × Int × (List Rt) × (List Int) × (List Rt) × Int × Int × Int × Int × (List Rt) × (List Rt) × (List Int) × Unit :=
  fun (used,c,v,v1,v2,v3,v4,v5,xs,xs1,xs2,xs3,xs4,xs5,_,_)=>(used,c,v,v1,ers xs3,xs4,ers xs5,v2,v3,v4,v5,ers xs,ers xs1,xs2,())
theorem zL3 (used c:Int) (lo len lo1 len1:Nat) (t t1 v v1 v2 v3 v4 v5:Int) (xs xs1:List TRt) (xs2:List Int) (xs3:List TRt) (xs4:List Int) (xs5:List TRt) (np:Nat) :
    L_impl_reduce_2 used c lo len lo1 len1 t t1 v v1 (ers xs3) xs4 (ers xs5) v2 v3 v4 v5 (ers xs) (ers xs1) xs2=(zfd used c lo len lo1 len1 t t1 v v1 v2 v3 v4 v5 xs xs1 xs2 xs3 xs4 xs5 np).map F2 :=
  whileO_map (S:=zcY) (T:=zbA) (fun (used,c,lo,len,lo1,len1,t,t1,v,v1,v2,v3,v4,v5,xs,xs1,xs2,xs3,xs4,xs5,_,_)=>(used,c,lo,len,lo1,len1,t,t1,v,v1,ers xs3,xs4,ers xs5,v2,v3,v4,v5,ers xs,ers xs1,xs2,())) F2
    (fun (used,c,lo,len,lo1,len1,t,t1,v,v1,v2,v3,v4,v5,xs,xs1,xs2,xs3,xs4,xs5,np,_)=>by
      simp only[zcY,zbA,zgZ,zd8,zdk,← zpE,zhx,zi6,List.getElem?_map,Option.map_some,Sum.map_inl,Sum.map_inr]) (used,c,lo,len,lo1,len1,t,t1,v,v1,v2,v3,v4,v5,xs,xs1,xs2,xs3,xs4,xs5,np,())
abbrev F1:Int × Int × Int × Int × Int × Int × Int × Int × Int × (List TRt) × (List Int) × (List TRt) × (List TRt) × (List Int) × (List TRt) × Nat × Unit→Int × Int × Int × Int × Int × (List Rt) × (List Int) × (List Rt) × Int × Int × Int × Int × (List Rt) × (List Int) × (List Rt) × Unit :=
  fun (used,c,p,v,v1,v2,v3,v4,v5,xs,xs1,xs2,xs3,xs4,xs5,_,_)=>(used,c,p,v,v1,ers xs3,xs4,ers xs5,v2,v3,v4,v5,ers xs,xs1,ers xs2,())
theorem zL4 (used c p v v1 v2 v3 v4 v5:Int) (xs:List TRt) (xs1:List Int) (xs2:List TRt) (xs3:List TRt) (xs4:List Int) (xs5:List TRt) (np:Nat) :
    zeX used c p v v1 (ers xs3) xs4 (ers xs5) v2 v3 v4 v5 (ers xs) xs1 (ers xs2)=(zfe used c p v v1 v2 v3 v4 v5 xs xs1 xs2 xs3 xs4 xs5 np).map F1 :=
  whileO_map (S:=zcj) (T:=zbB) (fun (used,c,p,v,v1,v2,v3,v4,v5,xs,xs1,xs2,xs3,xs4,xs5,_,_)=>(used,c,p,v,v1,ers xs3,xs4,ers xs5,v2,v3,v4,v5,ers xs,xs1,ers xs2,())) F1
    (fun (used,c,p,v,v1,v2,v3,v4,v5,xs,xs1,xs2,xs3,xs4,xs5,np,_)=>by
      simp only[zcj,zbB,zgZ,zd8,zRL,zdk,Option.map_some,Sum.map_inl,Sum.map_inr]) (used,c,p,v,v1,v2,v3,v4,v5,xs,xs1,xs2,xs3,xs4,xs5,np,())
abbrev F4:(Bool × Int × Int × (List TRt) × (List Int) × (List TRt) × Nat × Unit) ⊕ (Int × Int × Int × Int × Int × Int × Int × Int × (List TRt) × (List TRt) × (List Int) × (List TRt) × (List Int) × (List TRt) × Nat × Unit)→(Bool × Int × Int × (List Rt) × (List Int) × (List Rt) × Unit) ⊕ (Int × Int × Int × Int × (List Rt) × (List Int) × (List Rt) × Int × Int × Int × Int × (List Rt) × (List Rt) × (List Int) × Unit) :=
  Sum.map (fun (b,v,v1,xs,xs1,xs2,_,_)=>(b,v,v1,ers xs,xs1,ers xs2,())) fun (used,c,v,v1,v2,v3,v4,v5,xs,xs1,xs2,xs3,xs4,xs5,_,_)=>(used,c,v,v1,ers xs3,xs4,ers xs5,v2,v3,v4,v5,ers xs,ers xs1,xs2,())
theorem zCp (used c:Int) (lo len:Nat) (t t1 v v1 v2 v3 v4 v5:Int) (xs xs1:List TRt) (xs2:List Int) (xs3:List TRt) (xs4:List Int) (xs5:List TRt) (np:Nat) :
    L_impl_reduce_4 used c lo len t t1 v v1 (ers xs3) xs4 (ers xs5) v2 v3 v4 v5 (ers xs) (ers xs1) xs2=(zd1 used c lo len t t1 v v1 v2 v3 v4 v5 xs xs1 xs2 xs3 xs4 xs5 np).map F4 :=
  whileO_map (S:=zcW) (T:=zby) (fun (used,c,lo,len,t,t1,v,v1,v2,v3,v4,v5,xs,xs1,xs2,xs3,xs4,xs5,_,_)=>(used,c,lo,len,t,t1,v,v1,ers xs3,xs4,ers xs5,v2,v3,v4,v5,ers xs,ers xs1,xs2,())) F4
    (fun (used,c,lo,len,t,t1,v,v1,v2,v3,v4,v5,xs,xs1,xs2,xs3,xs4,xs5,np,_)=>by
      simp only[zcW,zby,zgZ,zd8,zCg,zdk,zhx,zi6,List.getElem?_map,zEL,zEM,zEN,zL2 (np:=np),Option.map_some,Sum.map_inl,Sum.map_inr,List.map_nil]) (used,c,lo,len,t,t1,v,v1,v2,v3,v4,v5,xs,xs1,xs2,xs3,xs4,xs5,np,())
end Go.Di
namespace Go.Di
theorem zPs (l:List TRt) (e:TRt):List.map TRt.er l++[TRt.er e]=List.map TRt.er (l++[e]):=by simp
theorem zRH (l:List TRt) (r:Rt) (a b:Nat):List.map TRt.er l++[r]=List.map TRt.er (l++[⟨r.neg,⟨a,r.mag⟩,⟨b,r.den⟩⟩]):=by simp[zNo]
theorem zg6 {α β:Type} {o:Option α} {f g:α→Option β} (h:∀ a,f a=g a):o.bind f=o.bind g:=by rw[funext h]
theorem zz5 {α:Type} {b:Bool} {x x' y y':α} (h1:b=true→x=x') (h2:b=false→y=y'):cond b x y=cond b x' y':=by cases b with
  | true=>exact h1 rfl
  | false=>exact h2 rfl
abbrev F0:(Bool × Int × Int × (List TRt) × (List Int) × (List TRt) × Nat × Unit) ⊕ (Int × Int × Int × Int × (List TRt) × (List Int) × (List TRt) × (List TRt) × (List Int) × (List TRt) × Nat × Unit)→(Bool × Int × Int × (List Rt) × (List Int) × (List Rt) × Unit) ⊕ (Int × Int × (List Rt) × (List Int) × (List Rt) × Int × Int × (List Rt) × (List Int) × (List Rt) × Unit) :=
  Sum.map (fun (b,v,v1,xs,xs1,xs2,_,_)=>(b,v,v1,ers xs,xs1,ers xs2,())) fun (v,v1,v2,v3,xs,xs1,xs2,xs3,xs4,xs5,_,_)=>(v,v1,ers xs3,xs4,ers xs5,v2,v3,ers xs,xs1,ers xs2,())
theorem red0_er (used c v v1 v2 v3 v4 v5:Int) (xs:List TRt) (xs1:List Int) (xs2:List TRt) (xs3:List TRt) (xs4:List Int) (xs5:List TRt) (np:Nat) :
    zeY used c v v1 (ers xs3) xs4 (ers xs5) v2 v3 v4 v5 (ers xs) xs1 (ers xs2)=(zd3 used c v v1 v2 v3 v4 v5 xs xs1 xs2 xs3 xs4 xs5 np).map F0 :=
  whileO_map (S:=zaR) (T:=zbC) (fun (used,c,v,v1,v2,v3,v4,v5,xs,xs1,xs2,xs3,xs4,xs5,_,_)=>(used,c,v,v1,ers xs3,xs4,ers xs5,v2,v3,v4,v5,ers xs,xs1,ers xs2,())) F0
    (fun (used,c,v,v1,v2,v3,v4,v5,xs,xs1,xs2,xs3,xs4,xs5,np,_)=>by
      simp only[zaR,zbC,zgZ,zd8,zL4 (np:=np),zdk,Option.map_some,Sum.map_inl,Sum.map_inr]
      refine zz5 (fun _=>zz5 (fun _=>zg6 fun ⟨used1,c1,p,v6,v7,v8,v9,v10,v11,xs6,xs7,xs8,xs9,xs10,xs11,np1,_⟩=>?_) fun _=>rfl) fun _=>rfl
      refine zz5 (fun _=>rfl) fun _=>zz5 (fun _=>?_) fun _=>?_
      · refine zg6 fun r=>?_
        simp only[List.length_map,zRH xs8 r np1 (np1+1),zCg,zdk,zL3 (np:=np1+2)]
        refine zg6 fun _=>zg6 fun _=>zg6 fun _=>zg6 fun ⟨used2,c2,v12,v13,v14,v15,v16,v17,xs12,xs13,xs14,xs15,xs16,xs17,np2,_⟩=>?_
        simp only[zhx,zi6,List.getElem?_map,zdk,zPs,zEL,zEM,zEN,zCq (np:=np2)]
        refine zg6 fun _=>zg6 fun _=>zg6 fun e=>zg6 fun _=>zg6 fun ⟨used3,c3,lo,len,v18,v19,v20,v21,v22,v23,xs18,xs19,xs20,xs21,xs22,xs23,np3,_⟩=>?_
        simp only[zCp (np:=np3),zdk]
        refine zg6 fun r1=>zz5 (fun _=>rfl) fun _=>zg6 fun r2=>?_
        cases r2 with
        | inl z=>rfl
        | inr z =>
          obtain ⟨used4,c4,v26,v27,v28,v29,v30,v31,xs27,xs28,xs29,xs30,xs31,xs32,np5,_⟩:=z
          show (zak _).bind _=((zak _).bind _).map _
          rw[zd8]; rfl
      · simp only[zCg,zhx,zi6,List.getElem?_map,zdk,zPs,zEL,zEM,zEN,List.length_map,zCq (np:=np1)]
        refine zg6 fun _=>zg6 fun _=>zg6 fun e=>zg6 fun _=>zg6 fun ⟨used3,c3,lo,len,v18,v19,v20,v21,v22,v23,xs18,xs19,xs20,xs21,xs22,xs23,np3,_⟩=>?_
        simp only[zCp (np:=np3),zdk]
        refine zg6 fun r1=>zz5 (fun _=>rfl) fun _=>zg6 fun r2=>?_
        cases r2 with
        | inl z=>rfl
        | inr z =>
          obtain ⟨used4,c4,v26,v27,v28,v29,v30,v31,xs27,xs28,xs29,xs30,xs31,xs32,np5,_⟩:=z
          show (zak _).bind _=((zak _).bind _).map _
          rw[zd8]; rfl) (used,c,v,v1,v2,v3,v4,v5,xs,xs1,xs2,xs3,xs4,xs5,np,())
/-! ### The numbers stay distinct -/
def Idn (n:Nat) (l:List TRt):Prop:=(zh2 l).Nodup∧∀ i∈zh2 l,i < n
theorem Idn.mono {n m:Nat} {l:List TRt} (h:Idn n l) (hm:n≤m):Idn m l:=⟨h.1,fun i hi=>Nat.lt_of_lt_of_le (h.2 i hi) hm⟩
theorem zpP:∀ (l:List TRt) (i:Nat) (e:TRt) (x:Nat),x∈zh2 (l.set i e)→x∈zh2 l∨x=e.mag.id∨x=e.den.id
  | [],_,_,x,h => .inl h
  | r :: l,0,e,x,h=>by
    simp only[List.set_cons_zero,zh2,List.mem_cons] at h ⊢
    rcases h with h | h | h
    · exact .inr (.inl h)
    · exact .inr (.inr h)
    · exact .inl (.inr (.inr h))
  | r :: l,i+1,e,x,h=>by
    simp only[List.set_cons_succ,zh2,List.mem_cons] at h ⊢
    rcases h with h | h | h
    · exact .inl (.inl h)
    · exact .inl (.inr (.inl h))
    · rcases zpP l i e x h with h | h
      · exact .inl (.inr (.inr h))
      · exact .inr h
theorem idn_set {n m:Nat} {l:List TRt} {e:TRt} (h:Idn n l) (i:Nat) (ha:n≤e.mag.id) (hb:n≤e.den.id) (hab:e.mag.id≠e.den.id) (ham:e.mag.id < m) (hbm:e.den.id < m) (hnm:n≤m):Idn m (l.set i e):=by
  refine ⟨?_,fun x hx=>?_⟩
  · obtain ⟨h1,h2⟩:=h
    induction l generalizing i with
    | nil=>exact List.nodup_nil
    | cons r l ih =>
      simp only[zh2,List.nodup_cons,List.mem_cons,not_or] at h1 h2
      cases i with
      | zero =>
        simp only[List.set_cons_zero,zh2,List.nodup_cons,List.mem_cons,not_or]
        have hl:∀ x∈zh2 l,x < n:=fun x hx=>h2 x (.inr (.inr hx))
        exact ⟨⟨hab,fun hx=>by have:=hl _ hx; omega⟩,fun hx=>by have:=hl _ hx; omega,h1.2.2⟩
      | succ i =>
        simp only[List.set_cons_succ,zh2,List.nodup_cons,List.mem_cons,not_or]
        have k:=ih i h1.2.2 (fun x hx=>h2 x (.inr (.inr hx)))
        have out:∀ x,x < n→x ∉ zh2 l→x ∉ zh2 (l.set i e):=fun x hx hn hh=>by
          rcases zpP l i e x hh with h | h | h
          · exact hn h
          · omega
          · omega
        exact ⟨⟨h1.1.1,out _ (h2 _ (.inl rfl)) h1.1.2⟩,out _ (h2 _ (.inr (.inl rfl))) h1.2.1,k⟩
  · rcases zpP l i e x hx with h' | h' | h'
    · exact Nat.lt_of_lt_of_le (h.2 x h') hnm
    · omega
    · omega
theorem zrS {l m:List TRt} (h:l.Perm m):(zh2 l).Perm (zh2 m):=by
  induction h with
  | nil=>exact .nil
  | cons r _ ih=>exact (ih.cons _).cons _
  | swap r s l =>
    simp only[zh2]
    exact ((List.perm_append_comm (l₁:=[s.mag.id,s.den.id]) (l₂:=[r.mag.id,r.den.id])).append_right (zh2 l))
  | trans _ _ ih1 ih2=>exact ih1.trans ih2
theorem swap_perm {α:Type} {l:List α} {i j:Nat} {a b:α} (hi:l[i]? = some a) (hj:l[j]? = some b):((l.set i b).set j a).Perm l:=by
  obtain ⟨h1,h1'⟩:=List.getElem?_eq_some_iff.1 hi
  obtain ⟨h2,h2'⟩:=List.getElem?_eq_some_iff.1 hj
  rw[← h1',← h2']
  exact List.set_set_perm h1 h2
theorem zHy {n:Nat} {l m:List TRt} (h:Idn n l) (hp:m.Perm l):Idn n m:=⟨(zrS hp).nodup_iff.2 h.1,fun i hi=>h.2 i ((zrS hp).mem_iff.1 hi)⟩
theorem zmR:∀ (n:Nat) (l:List Rt),(zh2 (zmC n l)).Nodup∧∀ i∈zh2 (zmC n l),n≤i∧i < n+2 * l.length
  | _,[]=>⟨List.nodup_nil,fun i h=>by cases h⟩
  | n, r :: l=>by
    obtain ⟨h1,h2⟩:=zmR (n+2) l
    simp only[zmC,zh2,List.nodup_cons,List.mem_cons,not_or,List.length_cons]
    refine ⟨⟨⟨by omega,fun h=>?_⟩,fun h=>?_,h1⟩,fun i hi=>?_⟩
    · have:=h2 _ h; omega
    · have:=h2 _ h; omega
    · rcases hi with rfl | rfl | hi
      · omega
      · omega
      · have:=h2 _ hi; omega
theorem zoC:∀ {l:List Nat},zd4 l=true↔l.Nodup
  | []=>by simp[zd4]
  | a :: l=>by
    unfold zd4
    rw[List.nodup_cons]
    split
    · rename_i h
      constructor
      · intro e; cases e
      · intro e; exact absurd (zaE.1 h) e.1
    · rename_i h
      rw[zoC]
      constructor
      · intro e; exact ⟨(fun hm=>by rw[zaE.2 hm] at h; cases h),e⟩
      · intro e; exact e.2
end Go.Di
namespace Go.Di
theorem zbO {α β:Type} {o:Option α} {f:α→Option β} {b:β} (h:o.bind f=some b):∃ a,o=some a∧f a=some b:=by
  cases o with
  | none=>cases h
  | some a=>exact ⟨a,rfl,h⟩
theorem condS {α:Type} {b:Bool} {x y:Option α} {z:α} (h:cond b x y=some z):(b=true∧x=some z)∨(b=false∧y=some z):=by
  cases b with
  | true=>exact .inl ⟨rfl,h⟩
  | false=>exact .inr ⟨rfl,h⟩
theorem whileO_keeps {τ θ:Type} {T:τ→Option (τ ⊕ θ)} (I:τ→Prop) (Q:θ→Prop) (h:∀ t r,I t→T t=some r→Sum.elim I Q r) {t:τ} {y:θ} (hi:I t) (hy:whileO T t=some y):Q y :=
  ztP I Q (fun t t' hi ht=>h t (.inl t') hi ht) (fun t y hi ht=>h t (.inr y) hi ht) hi hy
theorem zCj {r c i:Int} {l x0:List TRt} {w:Nat × Nat} (h:zaL ⟨r,c,l⟩ i=some (w,x0)):x0=l:=by
  unfold zaL at h
  obtain ⟨_,_,h⟩:=zbO h
  cases h; rfl
def Q5:Int × Int × Nat × Nat × Nat × Nat × Int × Int × Int × Int × Int × Int × Int × Int × (List TRt) × (List TRt) × (List Int) × (List TRt) × (List Int) × (List TRt) × Nat × Unit→Prop:=fun (_,_,_,_,_,_,_,_,_,_,_,_,_,_,xs,_,_,_,_,_,np,_)=>Idn np xs
def Q3:Int × Int × Nat × Nat × Int × Int × Int × Int × Int × Int × (List TRt) × (List TRt) × (List Int) × (List TRt) × (List Int) × (List TRt) × Nat × Unit→Prop:=fun (_,_,_,_,_,_,_,_,_,_,xs,_,_,_,_,_,np,_)=>Idn np xs
def Q2:Int × Int × Int × Int × Int × Int × Int × Int × (List TRt) × (List TRt) × (List Int) × (List TRt) × (List Int) × (List TRt) × Nat × Unit→Prop:=fun (_,_,_,_,_,_,_,_,xs,_,_,_,_,_,np,_)=>Idn np xs
def Q1:Int × Int × Int × Int × Int × Int × Int × Int × Int × (List TRt) × (List Int) × (List TRt) × (List TRt) × (List Int) × (List TRt) × Nat × Unit→Prop:=fun (_,_,_,_,_,_,_,_,_,xs,_,_,_,_,_,np,_)=>Idn np xs
def Q0:Int × Int × Int × Int × (List TRt) × (List Int) × (List TRt) × (List TRt) × (List Int) × (List TRt) × Nat × Unit→Prop:=fun (_,_,_,_,xs,_,_,_,_,_,np,_)=>Idn np xs
def QE:Bool × Int × Int × (List TRt) × (List Int) × (List TRt) × Nat × Unit→Prop:=fun (_,_,_,xs,_,_,_,_)=>(zh2 xs).Nodup
def J5:Int × Int × Nat × Nat × Nat × Nat × Int × Int × Int × Int × Int × Int × Int × Int × Int × Int × Bool × Tk × Tk × (List TRt) × (List TRt) × (List Int) × (List TRt) × (List Int) × (List TRt) × Nat × Unit→Prop:=fun (_,_,_,_,_,_,_,_,_,_,_,_,_,_,_,_,_,_,_,xs,_,_,_,_,_,np,_)=>Idn np xs
def J4:Int × Int × Nat × Nat × Int × Int × Int × Int × Int × Int × Int × Int × (List TRt) × (List TRt) × (List Int) × (List TRt) × (List Int) × (List TRt) × Nat × Unit→Prop:=fun (_,_,_,_,_,_,_,_,_,_,_,_,xs,_,_,_,_,_,np,_)=>Idn np xs
def J3:Int × Int × Nat × Nat × Int × Int × Int × Int × Int × Int × Int × Int × Bool × Tk × Tk × (List TRt) × (List TRt) × (List Int) × (List TRt) × (List Int) × (List TRt) × Nat × Unit→Prop:=fun (_,_,_,_,_,_,_,_,_,_,_,_,_,_,_,xs,_,_,_,_,_,np,_)=>Idn np xs
def J2:Int × Int × Nat × Nat × Nat × Nat × Int × Int × Int × Int × Int × Int × Int × Int × (List TRt) × (List TRt) × (List Int) × (List TRt) × (List Int) × (List TRt) × Nat × Unit→Prop:=fun (_,_,_,_,_,_,_,_,_,_,_,_,_,_,xs,_,_,_,_,_,np,_)=>Idn np xs
def J1:Int × Int × Int × Int × Int × Int × Int × Int × Int × (List TRt) × (List Int) × (List TRt) × (List TRt) × (List Int) × (List TRt) × Nat × Unit→Prop:=fun (_,_,_,_,_,_,_,_,_,xs,_,_,_,_,_,np,_)=>Idn np xs
def J0:Int × Int × Int × Int × Int × Int × Int × Int × (List TRt) × (List Int) × (List TRt) × (List TRt) × (List Int) × (List TRt) × Nat × Unit→Prop:=fun (_,_,_,_,_,_,_,_,xs,_,_,_,_,_,np,_)=>Idn np xs
theorem zGF {used c:Int} {lo len lo1 len1:Nat} {t t1 t2 t3 v v1 v2 v3 v4 v5:Int} {v6:Bool} {v7 v8:Tk} {xs xs1:List TRt} {xs2:List Int} {xs3:List TRt} {xs4:List Int} {xs5:List TRt} {np:Nat} (hi:Idn np xs)
    {y} (h:zfc used c lo len lo1 len1 t t1 t2 t3 v v1 v2 v3 v4 v5 v6 v7 v8 xs xs1 xs2 xs3 xs4 xs5 np=some y):Q5 y :=
  whileO_keeps (T:=zbx) (t:=(used,c,lo,len,lo1,len1,t,t1,t2,t3,v,v1,v2,v3,v4,v5,v6,v7,v8,xs,xs1,xs2,xs3,xs4,xs5,np,())) J5 Q5 (fun (used,c,lo,len,lo1,len1,t,t1,t2,t3,v,v1,v2,v3,v4,v5,v6,v7,v8,xs,xs1,xs2,xs3,xs4,xs5,np,_) r hi h=>by
    have hi:Idn np xs:=hi
    simp only[zbx] at h
    rcases condS h with ⟨_,h⟩ | ⟨_,h⟩
    · obtain ⟨_,_,h⟩:=zbO h
      obtain ⟨_,_,h⟩:=zbO h
      obtain ⟨_,_,h⟩:=zbO h
      obtain ⟨_,_,h⟩:=zbO h
      obtain ⟨_,_,h⟩:=zbO h
      obtain ⟨_,_,h⟩:=zbO h
      obtain ⟨_,_,h⟩:=zbO h
      cases h
      exact idn_set hi _ (by simp) (by simp) (by simp) (by simp) (by simp) (by simp)
    · cases h; exact hi) hi h
theorem zwr {used c:Int} {lo len:Nat} {t t1 v v1 v2 v3 v4 v5:Int} {v6:Bool} {v7 v8:Tk} {xs xs1:List TRt} {xs2:List Int} {xs3:List TRt} {xs4:List Int} {xs5:List TRt} {np:Nat} (hi:Idn np xs)
    {y} (h:zd2 used c lo len t t1 v v1 v2 v3 v4 v5 v6 v7 v8 xs xs1 xs2 xs3 xs4 xs5 np=some y):Q3 y :=
  whileO_keeps (T:=zbz) (t:=(used,c,lo,len,t,t1,v,v1,v2,v3,v4,v5,v6,v7,v8,xs,xs1,xs2,xs3,xs4,xs5,np,())) J3 Q3 (fun (used,c,lo,len,t,t1,v,v1,v2,v3,v4,v5,v6,v7,v8,xs,xs1,xs2,xs3,xs4,xs5,np,_) r hi h=>by
    have hi:Idn np xs:=hi
    simp only[zbz] at h
    rcases condS h with ⟨_,h⟩ | ⟨_,h⟩
    · obtain ⟨_,_,h⟩:=zbO h
      obtain ⟨_,_,h⟩:=zbO h
      obtain ⟨_,_,h⟩:=zbO h
      obtain ⟨_,_,h⟩:=zbO h
      cases h
      exact idn_set hi _ (by simp) (by simp) (by simp) (by simp) (by simp) (by simp)
    · cases h; exact hi) hi h
theorem zGG {used c:Int} {lo len lo1 len1:Nat} {t t1 v v1 v2 v3 v4 v5:Int} {xs xs1:List TRt} {xs2:List Int} {xs3:List TRt} {xs4:List Int} {xs5:List TRt} {np:Nat} (hi:Idn np xs)
    {y} (h:zfd used c lo len lo1 len1 t t1 v v1 v2 v3 v4 v5 xs xs1 xs2 xs3 xs4 xs5 np=some y):Q2 y :=
  whileO_keeps (T:=zbA) (t:=(used,c,lo,len,lo1,len1,t,t1,v,v1,v2,v3,v4,v5,xs,xs1,xs2,xs3,xs4,xs5,np,())) J2 Q2 (fun (used,c,lo,len,lo1,len1,t,t1,v,v1,v2,v3,v4,v5,xs,xs1,xs2,xs3,xs4,xs5,np,_) r hi h=>by
    have hi:Idn np xs:=hi
    simp only[zbA] at h
    rcases condS h with ⟨_,h⟩ | ⟨_,h⟩
    · obtain ⟨_,_,h⟩:=zbO h
      obtain ⟨e,he,h⟩:=zbO h
      obtain ⟨_,_,h⟩:=zbO h
      obtain ⟨e1,he1,h⟩:=zbO h
      obtain ⟨_,_,h⟩:=zbO h
      obtain ⟨_,_,h⟩:=zbO h
      cases h
      exact zHy hi (swap_perm he1 he)
    · cases h; exact hi) hi h
theorem zGH {used c p v v1 v2 v3 v4 v5:Int} {xs:List TRt} {xs1:List Int} {xs2:List TRt} {xs3:List TRt} {xs4:List Int} {xs5:List TRt} {np:Nat} (hi:Idn np xs)
    {y} (h:zfe used c p v v1 v2 v3 v4 v5 xs xs1 xs2 xs3 xs4 xs5 np=some y):Q1 y :=
  whileO_keeps (T:=zbB) (t:=(used,c,p,v,v1,v2,v3,v4,v5,xs,xs1,xs2,xs3,xs4,xs5,np,())) J1 Q1 (fun (used,c,p,v,v1,v2,v3,v4,v5,xs,xs1,xs2,xs3,xs4,xs5,np,_) r hi h=>by
    have hi:Idn np xs:=hi
    simp only[zbB] at h
    rcases condS h with ⟨_,h⟩ | ⟨_,h⟩
    · obtain ⟨_,_,h⟩:=zbO h
      obtain ⟨_,_,h⟩:=zbO h
      rcases condS h with ⟨_,h⟩ | ⟨_,h⟩<;>(cases h; exact hi)
    · cases h; exact hi) hi h
theorem red4_idn {used c:Int} {lo len:Nat} {t t1 v v1 v2 v3 v4 v5:Int} {xs xs1:List TRt} {xs2:List Int} {xs3:List TRt} {xs4:List Int} {xs5:List TRt} {np:Nat} (hi:Idn np xs)
    {y} (h:zd1 used c lo len t t1 v v1 v2 v3 v4 v5 xs xs1 xs2 xs3 xs4 xs5 np=some y):Sum.elim QE Q2 y :=
  whileO_keeps (T:=zby) (t:=(used,c,lo,len,t,t1,v,v1,v2,v3,v4,v5,xs,xs1,xs2,xs3,xs4,xs5,np,())) J4 (Sum.elim QE Q2) (fun (used,c,lo,len,t,t1,v,v1,v2,v3,v4,v5,xs,xs1,xs2,xs3,xs4,xs5,np,_) r hi h=>by
    have hi:Idn np xs:=hi
    simp only[zby] at h
    rcases condS h with ⟨_,h⟩ | ⟨_,h⟩
    · obtain ⟨⟨w,x0⟩,hr,h⟩:=zbO h
      rw[zCj hr] at h
      rcases condS h with ⟨_,h⟩ | ⟨_,h⟩
      · cases h; exact hi
      · obtain ⟨_,_,h⟩:=zbO h
        obtain ⟨_,_,h⟩:=zbO h
        obtain ⟨_,_,h⟩:=zbO h
        rcases condS h with ⟨_,h⟩ | ⟨_,h⟩
        · cases h; exact hi
        · obtain ⟨_,_,h⟩:=zbO h
          obtain ⟨_,_,h⟩:=zbO h
          obtain ⟨y,h5,h⟩:=zbO h
          have k:=zGF hi h5
          obtain ⟨_,_,h⟩:=zbO h
          rcases condS h with ⟨_,h⟩ | ⟨_,h⟩
          · cases h; exact List.nodup_nil
          · cases h; exact k
    · cases h; exact hi) hi h
theorem red0_idn {used c v v1 v2 v3 v4 v5:Int} {xs:List TRt} {xs1:List Int} {xs2:List TRt} {xs3:List TRt} {xs4:List Int} {xs5:List TRt} {np:Nat} (hi:Idn np xs)
    {y} (h:zd3 used c v v1 v2 v3 v4 v5 xs xs1 xs2 xs3 xs4 xs5 np=some y):Sum.elim QE Q0 y :=
  whileO_keeps (T:=zbC) (t:=(used,c,v,v1,v2,v3,v4,v5,xs,xs1,xs2,xs3,xs4,xs5,np,())) J0 (Sum.elim QE Q0) (fun (used,c,v,v1,v2,v3,v4,v5,xs,xs1,xs2,xs3,xs4,xs5,np,_) r hi h=>by
    have hi:Idn np xs:=hi
    simp only[zbC] at h
    rcases condS h with ⟨_,h⟩ | ⟨_,h⟩
    · rcases condS h with ⟨_,h⟩ | ⟨_,h⟩
      · obtain ⟨⟨used1,c1,p,v6,v7,v8,v9,v10,v11,xs6,xs7,xs8,xs9,xs10,xs11,np1,_⟩,h1,h⟩:=zbO h
        have k1:Idn np1 xs6:=zGH hi h1
        rcases condS h with ⟨_,h⟩ | ⟨_,h⟩
        · cases h; exact k1
        · rcases condS h with ⟨_,h⟩ | ⟨_,h⟩
          · obtain ⟨_,_,h⟩:=zbO h
            obtain ⟨_,_,h⟩:=zbO h
            obtain ⟨⟨w,x0⟩,hr,h⟩:=zbO h
            rw[zCj hr] at h
            obtain ⟨⟨w',x0'⟩,hr,h⟩:=zbO h
            rw[zCj hr] at h
            obtain ⟨⟨used2,c2,v12,v13,v14,v15,v16,v17,xs12,xs13,xs14,xs15,xs16,xs17,np2,_⟩,h2,h⟩:=zbO h
            have k2:Idn np2 xs12:=zGG (k1.mono (Nat.le_add_right np1 2)) h2
            obtain ⟨⟨w3,x03⟩,hr,h⟩:=zbO h
            rw[zCj hr] at h
            obtain ⟨_,_,h⟩:=zbO h
            obtain ⟨_,_,h⟩:=zbO h
            obtain ⟨_,_,h⟩:=zbO h
            obtain ⟨⟨used3,c3,lo,len,v18,v19,v20,v21,v22,v23,xs18,xs19,xs20,xs21,xs22,xs23,np3,_⟩,h3,h⟩:=zbO h
            have k3:Idn np3 xs18:=zwr k2 h3
            obtain ⟨_,_,h⟩:=zbO h
            rcases condS h with ⟨_,h⟩ | ⟨_,h⟩
            · cases h; exact List.nodup_nil
            · obtain ⟨r2,h4,h⟩:=zbO h
              have k4:=red4_idn k3 h4
              cases r2 with
              | inl z=>cases h; exact k4
              | inr z =>
                obtain ⟨used4,c4,v26,v27,v28,v29,v30,v31,xs27,xs28,xs29,xs30,xs31,xs32,np5,_⟩:=z
                obtain ⟨_,_,h⟩:=zbO h
                cases h; exact k4
          · obtain ⟨⟨w3,x03⟩,hr,h⟩:=zbO h
            rw[zCj hr] at h
            obtain ⟨_,_,h⟩:=zbO h
            obtain ⟨_,_,h⟩:=zbO h
            obtain ⟨_,_,h⟩:=zbO h
            obtain ⟨⟨used3,c3,lo,len,v18,v19,v20,v21,v22,v23,xs18,xs19,xs20,xs21,xs22,xs23,np3,_⟩,h3,h⟩:=zbO h
            have k3:Idn np3 xs18:=zwr k1 h3
            obtain ⟨_,_,h⟩:=zbO h
            rcases condS h with ⟨_,h⟩ | ⟨_,h⟩
            · cases h; exact List.nodup_nil
            · obtain ⟨r2,h4,h⟩:=zbO h
              have k4:=red4_idn k3 h4
              cases r2 with
              | inl z=>cases h; exact k4
              | inr z =>
                obtain ⟨used4,c4,v26,v27,v28,v29,v30,v31,xs27,xs28,xs29,xs30,xs31,xs32,np5,_⟩:=z
                obtain ⟨_,_,h⟩:=zbO h
                cases h; exact k4
      · cases h; exact hi
    · cases h; exact hi) hi h
theorem znC {l:List TRt} (h:(zh2 l).Nodup):zak (zd4 (zh2 l++([]:List Nat)))=some ():=by
  rw[List.append_nil,zoC.2 h]; rfl
theorem zwq {m:Mx} {R C:Int} {cs:List Rt} {pv:List Int} {fs:List Rt} {b:Bool} (h:zdW m=some (⟨R,C,cs,pv,fs⟩,b)):zeR m=some (⟨R,C,cs,pv⟩,b):=by
  unfold zdW at h
  obtain ⟨r,hr,h⟩:=zbO h
  obtain ⟨y,hy,h⟩:=zbO h
  have e:=red0_er 0 0 0 0 m.rows m.cols m.rows m.cols (zmC 0 r) [] [] [] [] [] (0+2 * r.length)
  rw[show ers (zmC 0 r)=r from ztT 0 r,show ers ([]:List TRt)=[] from rfl,hy] at e
  cases hz:zd3 0 0 0 0 m.rows m.cols m.rows m.cols (zmC 0 r) [] [] [] [] [] (0+2 * r.length) with
  | none=>rw[hz] at e; cases e
  | some z =>
    rw[hz] at e
    have e:=Option.some.inj e
    subst e
    have hk:=red0_idn ⟨(zmR 0 r).1,fun i hi=>((zmR 0 r).2 i hi).2⟩ hz
    unfold zeR
    rw[hr,Option.bind_some]
    rw[hz,Option.bind_some]
    cases z with
    | inl z =>
      obtain ⟨t,v,v1,xs,xs1,_,_,_⟩:=z
      simp only[]
      rw[znC hk]
      cases h; rfl
    | inr z =>
      obtain ⟨_,_,v4,v5,xs3,xs4,_,_,_,_,_,_⟩:=z
      simp only[]
      rw[znC hk.1]
      cases h; rfl
end Go.Di
namespace Go.Di
end Go.Di
namespace Go.Di
end Go.Di
namespace Go.Di
def rv (o:Option Rat):Rat:=o.getD 0
section
variable {r c k:Nat}
theorem zyX {s s':ES} (h:EInv r c k s) (hk:k < c) (e:zkF r c k s=some s') :
    (s'=s∧∀ i,s.pv.length≤i→i < r→s.g i k=some 0) ∨
    ∃ p,s.pv.length≤p∧p < r∧s.pv.length < r∧s.g p k≠some 0∧(∀ i,s.pv.length≤i→i < p→s.g i k=some 0)∧(∀ i j,i < r→j < c→(dvd (swp s.g p s.pv.length) s.pv.length k i j).isSome=true) ∧
      (∀ i j,i < r→j < c→(clr (dvd (swp s.g p s.pv.length) s.pv.length k) s.pv.length k i j).isSome=true) ∧
      s'=⟨clr (dvd (swp s.g p s.pv.length) s.pv.length k) s.pv.length k,s.pv++[(k:Int)],(s.fs++if p≠s.pv.length then [some (-1)] else [])++[swp s.g p s.pv.length s.pv.length k]⟩:=by
  unfold zkF at e
  split at e
  · rename_i hur
    obtain ⟨pl,ph⟩:=znk s.g k (r - s.pv.length) s.pv.length
    have hz:=zni s.g k (r - s.pv.length) s.pv.length
    have hne:=znj s.g k (r - s.pv.length) s.pv.length
    generalize zkB s.g k (r - s.pv.length) s.pv.length=p at *
    simp only at e
    split at e
    · rename_i hpr
      injection e with e
      exact .inl ⟨e.symm,fun i h1 h2=>hz i h1 (by omega)⟩
    · rename_i hpr
      cases hall:(zsU r c (dvd (swp s.g p s.pv.length) s.pv.length k) && zsU r c (clr (dvd (swp s.g p s.pv.length) s.pv.length k) s.pv.length k)) with
      | false=>rw[hall] at e; cases e
      | true =>
        rw[hall] at e
        injection e with e
        rw[Bool.and_eq_true] at hall
        exact .inr ⟨p,pl,by omega,hur,hne (by omega),hz,zeb.1 hall.1,zeb.1 hall.2,e.symm⟩
  · injection e with e
    exact .inl ⟨e.symm,fun i h1 h2=>by omega⟩
/-! ### The reduced form -/
def piv (s:ES) (t:Nat):Nat:=((s.pv[t]?).getD 0).toNat
structure RInv (r c k:Nat) (s:ES):Prop where
  val:∀ t,t < s.pv.length→s.pv[t]? = some ((piv s t:Nat):Int)
  lt:∀ t,t < s.pv.length→piv s t < k
  asc:∀ t t',t < t'→t' < s.pv.length→piv s t < piv s t'
  unit:∀ t i,t < s.pv.length→i < r→s.g i (piv s t)=if i=t then some 1 else some 0
  lead:∀ t j,t < s.pv.length→j < piv s t→s.g t j=some 0
theorem zCk {s s':ES} (h:EInv r c k s) (hR:RInv r c k s) (hk:k < c) (e:zkF r c k s=some s'):RInv r c (k+1) s':=by
  rcases zyX h hk e with ⟨rfl,_⟩ | ⟨p,h1,h2,h3,h4,h5,h6,h7,rfl⟩
  · exact ⟨hR.val,fun t ht=>by have:=hR.lt t ht; omega,hR.asc,hR.unit,hR.lead⟩
  · have hg1:∀ t,t < s.pv.length→∀ j,swp s.g p s.pv.length t j=s.g t j:=fun t ht j=>by
      unfold swp; rw[if_neg (by omega),if_neg (by omega)]
    have g1:=zmE (u:=s.pv.length) h.good h2 h3
    have z1:=zmD (c:=c) h3 h2 h1 h.zero
    have hpk:swp s.g p s.pv.length s.pv.length k≠some 0:=by
      unfold swp
      split
      · rename_i e; rw[e]; exact h4
      · rw[if_pos rfl]; exact h4
    -- columns of earlier pivots behind the exchange
    have u1:∀ t i,t < s.pv.length→i < r→swp s.g p s.pv.length i (piv s t)=if i=t then some 1 else some 0:=fun t i ht hi=>by
      unfold swp
      split
      · rename_i e; rw[hR.unit t _ ht h3,if_neg (by omega),if_neg (by omega)]
      · split
        · rw[hR.unit t _ ht h2,if_neg (by omega),if_neg (by omega)]
        · exact hR.unit t i ht hi
    have hu:=h3
    generalize swp s.g p s.pv.length=gg at *
    obtain ⟨y,hy⟩:=Option.isSome_iff_exists.1 (g1 s.pv.length k hu hk).2
    have hy0:y≠0:=fun e0=>hpk (by rw[hy,e0])
    have hzu:∀ j,j < k→dvd gg s.pv.length k s.pv.length j=some 0:=fun j hj=>by
      unfold dvd; rw[if_pos rfl,z1 _ j (Nat.le_refl _) hu hj (by omega),hy,zkZ hy0]
    have hone:dvd gg s.pv.length k s.pv.length k=some 1:=by unfold dvd; rw[if_pos rfl,hy,zr1 hy0]
    have dother:∀ i j,i≠s.pv.length→dvd gg s.pv.length k i j=gg i j:=fun i j hi=>by unfold dvd; rw[if_neg hi]
    -- numbers left of column k stay, in rows other than the new one
    have cleft:∀ i j,i < r→i≠s.pv.length→j < k→clr (dvd gg s.pv.length k) s.pv.length k i j=gg i j:=fun i j hi hne hj=>by
      unfold clr
      rw[if_neg hne,dother i k hne,dother i j hne,hzu j hj]
      split
      · rfl
      · obtain ⟨x,hx⟩:=Option.isSome_iff_exists.1 (g1 i k hi hk).2
        rw[hx,zkr,zmY (g1 i j hi (by omega)).1]
    have ccol:∀ i,i < r→clr (dvd gg s.pv.length k) s.pv.length k i k=if i=s.pv.length then some 1 else some 0:=fun i hi=>by
      unfold clr
      by_cases hne:i=s.pv.length
      · rw[if_pos hne,if_pos hne,hone]
      · rw[if_neg hne,if_neg hne,dother i k hne,hone]
        obtain ⟨x,hx⟩:=Option.isSome_iff_exists.1 (g1 i k hi hk).2
        split
        · assumption
        · rw[hx,zwC ((g1 i k hi hk).1 |> fun h=>by rw[hx] at h; exact h),zqR]
    have crow:∀ j,clr (dvd gg s.pv.length k) s.pv.length k s.pv.length j=dvd gg s.pv.length k s.pv.length j:=fun j=>by unfold clr; rw[if_pos rfl]
    have hpold:∀ t,t < s.pv.length→piv ⟨clr (dvd gg s.pv.length k) s.pv.length k,s.pv++[(k:Int)],(s.fs++if p≠s.pv.length then [some (-1)] else [])++[gg s.pv.length k]⟩ t=piv s t:=fun t ht=>by
      unfold piv; simp only; rw[List.getElem?_append_left ht]
    have hpnew:piv ⟨clr (dvd gg s.pv.length k) s.pv.length k,s.pv++[(k:Int)],(s.fs++if p≠s.pv.length then [some (-1)] else [])++[gg s.pv.length k]⟩ s.pv.length=k:=by
      unfold piv; simp only; rw[List.getElem?_append_right (Nat.le_refl _),Nat.sub_self]; simp
    have hlen:(s.pv++[(k:Int)]).length=s.pv.length+1:=by simp
    refine ⟨fun t ht=>?_,fun t ht=>?_,fun t t' htt ht'=>?_,fun t i ht hi=>?_,fun t j ht hj=>?_⟩
    · simp only[hlen] at ht
      by_cases h8:t < s.pv.length
      · rw[hpold t h8]; simp only; rw[List.getElem?_append_left h8]; exact hR.val t h8
      · have:t=s.pv.length:=by omega
        subst this
        rw[hpnew]; simp only; rw[List.getElem?_append_right (Nat.le_refl _),Nat.sub_self]; rfl
    · simp only[hlen] at ht
      by_cases h8:t < s.pv.length
      · rw[hpold t h8]; have:=hR.lt t h8; omega
      · have:t=s.pv.length:=by omega
        subst this
        rw[hpnew]; omega
    · simp only[hlen] at ht'
      rw[hpold t (by omega)]
      by_cases h8:t' < s.pv.length
      · rw[hpold t' h8]; exact hR.asc t t' htt h8
      · have:t'=s.pv.length:=by omega
        subst this
        rw[hpnew]; exact hR.lt t (by omega)
    · simp only[hlen] at ht
      by_cases h8:t < s.pv.length
      · rw[hpold t h8]
        have hlt:=hR.lt t h8
        show clr (dvd gg s.pv.length k) s.pv.length k i (piv s t)=_
        by_cases hne:i=s.pv.length
        · rw[hne,crow,hzu _ hlt,if_neg (by omega)]
        · rw[cleft i _ hi hne hlt]; exact u1 t i h8 hi
      · have:t=s.pv.length:=by omega
        subst this
        rw[hpnew]; exact ccol i hi
    · simp only[hlen] at ht
      by_cases h8:t < s.pv.length
      · rw[hpold t h8] at hj
        have hlt:=hR.lt t h8
        show clr (dvd gg s.pv.length k) s.pv.length k t j=_
        rw[cleft t j (by omega) (by omega) (by omega),hg1 t h8]
        exact hR.lead t j h8 hj
      · have:t=s.pv.length:=by omega
        subst this
        rw[hpnew] at hj
        show clr (dvd gg s.pv.length k) s.pv.length k s.pv.length j=_
        rw[crow,hzu j hj]
theorem zER {g:Nat→Nat→Option Rat} (hg:zfB r c g):∀ {k:Nat} {s:ES},k≤c→elim r c g k=some s→RInv r c k s:=by
  intro k
  induction k with
  | zero =>
    intro s _ e
    injection e with e; subst e
    exact ⟨fun t h=>by simp at h,fun t h=>by simp at h,fun t t' _ h=>by simp at h,fun t i h _=>by simp at h,fun t j h _=>by simp at h⟩
  | succ k ih =>
    intro s hk e
    unfold elim at e
    cases h0:elim r c g k with
    | none=>rw[h0] at e; cases e
    | some s0 =>
      rw[h0] at e
      exact zCk (zi4 hg (by omega) h0) (ih (by omega) h0) (by omega) e
end
end Go.Di
namespace Go.Di
end Go.Di
namespace Go.Di
def Cur.ok (c:Cur):Prop:=0≤c.i∧c.i≤(c.b.length:Int)∧c.b.length≤1048576
/-! ### Bounds of a fraction's parts -/
def Bd (q:Rat) (n d:Nat):Prop:=q.num.natAbs≤n∧q.den≤d
theorem Bd.mono {q:Rat} {n d m e:Nat} (h:Bd q n d) (h1:n≤m) (h2:d≤e):Bd q m e:=⟨Nat.le_trans h.1 h1,Nat.le_trans h.2 h2⟩
theorem zRK {z:Int} {d:Nat} (hd:d≠0):Bd (mkRat z d) z.natAbs d:=by
  refine ⟨?_,?_⟩
  · rw[zCJ z hd]; exact Nat.div_le_self _ _
  · rw[(zkQ z hd).2]; exact Nat.div_le_self _ _
theorem zPH (n:Int):Bd (n:Rat) n.natAbs 1:=⟨by rw[Rat.num_intCast]; exact Nat.le_refl _,by rw[Rat.den_intCast]; exact Nat.le_refl _⟩
theorem zPG {a b:Rat} {n d m e:Nat} (h:Bd a n d) (k:Bd b m e):Bd (a * b) (n * m) (d * e):=by
  rw[← zCG]
  refine (zRK (Nat.mul_ne_zero a.den_nz b.den_nz)).mono ?_ (Nat.mul_le_mul h.2 k.2)
  rw[Int.natAbs_mul]; exact Nat.mul_le_mul h.1 k.1
theorem Bd.fit {q:Rat} {n d:Nat} (h:Bd q n d) (h1:n≤10 ^ 200) (h2:d≤10 ^ 200):Fit q:=by
  have e:((10 ^ 200:Nat):Int) < bp 24:=by decide
  exact ⟨zfp.2 (Int.lt_of_le_of_lt (Int.ofNat_le.2 (Nat.le_trans h.1 h1)) e),zfp.2 (Int.lt_of_le_of_lt (Int.ofNat_le.2 (Nat.le_trans h.2 h2)) e)⟩
end Go.Di
namespace Go.Di
end Go.Di
namespace Go.Di
end Go.Di
namespace Go.Di
/-! ### Marks -/
def wS (s:Sta):Nat:=4+s.x.mag.length+s.x.den.length+s.y.mag.length+s.y.den.length
structure Sfit (l:List Sta):Prop where
  fit:zpF Sta.fit l
  few:ws wS l≤1000000000
/-! ### Lists whose first elements are changed -/
/-! ### Copies -/
/-! ### Sums -/
/-! ### Shifted networks -/
/-! ### Moved networks -/
end Go.Di
namespace Go.Di
end Go.Di
namespace Go.Di
/-! ### Vectors drawn from bytes -/
def Small (q:List Rat):Prop:=∀ x∈q,Bd x 20 6
theorem Small.fits {q:List Rat} (h:Small q):Fits q:=fun x hx=>(h x hx).fit (by decide) (by decide)
/-! ### Networks drawn from bytes -/
end Go.Di
namespace Go.Di
def Sz (q:Rat) (k:Nat):Prop:=Bd q (10 ^ k) (10 ^ k)
theorem zwb {k m:Nat} (h:k≤m):10 ^ k≤10 ^ m:=Nat.pow_le_pow_right (by omega) h
theorem Sz.mono {q:Rat} {k m:Nat} (h:Sz q k) (hm:k≤m):Sz q m:=Bd.mono h (zwb hm) (zwb hm)
theorem Sz.fit {q:Rat} {k:Nat} (h:Sz q k) (hk:k≤200):Fit q:=Bd.fit h (zwb hk) (zwb hk)
theorem zOm {a b:Rat} {k m:Nat} (h:Sz a k) (h':Sz b m):Sz (a * b) (k+m):=by
  have:=zPG h h'
  unfold Sz; rw[Nat.pow_add]; exact this
theorem zLL:Sz 0 0:=(zPH 0).mono (by decide) (by decide)
theorem Small.sz {q:List Rat} (h:Small q):∀ x∈q,Sz x 2:=fun x hx=>(h x hx).mono (by decide) (by decide)
def Szs (q:List Rat) (k:Nat):Prop:=∀ x∈q,Sz x k
theorem Szs.fits {q:List Rat} {k:Nat} (h:Szs q k) (hk:k≤200):Fits q:=fun x hx=>(h x hx).fit hk
theorem Szs.get {q:List Rat} {k:Nat} (h:Szs q k) (i:Nat):Sz ((q[i]?).getD 0) k:=by
  by_cases hi:i < q.length
  · rw[List.getElem?_eq_getElem hi]; exact h _ (List.getElem_mem hi)
  · rw[List.getElem?_eq_none (by omega)]; exact zLL.mono (by omega)
/-! ### Inner products that fit -/
/-! ### Products that fit -/
end Go.Di
namespace Go.Di
/-! ### Numbers that stay small enough -/
def SzG (r c:Nat) (g:Nat→Nat→Option Rat) (K:Nat):Prop:=∀ i j,i < r→j < c→∃ x,g i j=some x∧Sz x K
theorem SzG.mono {r c:Nat} {g:Nat→Nat→Option Rat} {K M:Nat} (h:SzG r c g K) (hm:K≤M):SzG r c g M:=fun i j hi hj=>by
  obtain ⟨x,e,s⟩:=h i j hi hj; exact ⟨x,e,s.mono hm⟩
theorem zLN {x y:Rat} {K M:Nat} (hx:Sz x K) (hy:Sz y M) (hk:K+M≤200):zmy (some x) (some y)=some (x * y)∧Sz (x * y) (K+M):=by
  have s:=zOm hx hy
  exact ⟨zgG (s.fit hk),s⟩
section
variable {r c k K:Nat}
theorem SzG.all {g:Nat→Nat→Option Rat} (h:SzG r c g K):zsU r c g=true:=zeb.2 fun i j hi hj=>by
  obtain ⟨x,e,_⟩:=h i j hi hj; rw[e]; rfl
theorem zCx (l:List (Option Rat)) (o:Option Rat):zue (l++[o]) (l.length+1)=zmy (zue l l.length) o:=by
  have : ∀ n,n≤l.length→zue (l++[o]) n=zue l n:=by
    intro n
    induction n with
    | zero=>intro _; rfl
    | succ n ih =>
      intro h
      show zmy _ _=zmy _ _
      rw[ih (by omega),List.getElem?_append_left (by omega)]
  show zmy (zue (l++[o]) l.length) _=_
  rw[this _ (Nat.le_refl _),List.getElem?_append_right (Nat.le_refl _),Nat.sub_self]; rfl
def zRM (fs:List (Option Rat)) (P:Nat):Prop:=∃ y,zue fs fs.length=some y∧y≠0∧Sz y P
theorem zRM.app {fs:List (Option Rat)} {P M:Nat} (h:zRM fs P) {x:Rat} (hx:Sz x M) (h0:x≠0) (hk:P+M≤200):zRM (fs++[some x]) (P+M):=by
  obtain ⟨y,e,y0,s⟩:=h
  obtain ⟨e2,s2⟩:=zLN s hx hk
  refine ⟨y * x,?_,fun e0=>?_,s2⟩
  · rw[List.length_append,List.length_singleton,zCx,e,e2]
  · rcases Rat.mul_eq_zero.1 e0 with h | h
    · exact y0 h
    · exact h0 h
/-! ### A matrix in reduced form is reduced to itself -/
structure Red (r c:Nat) (g:Nat→Nat→Option Rat) (L:Nat) (P:Nat→Nat):Prop where
  le:L≤r
  lt:∀ t,t < L→P t < c
  asc:∀ t t',t < t'→t' < L→P t < P t'
  unit:∀ t i,t < L→i < r→g i (P t)=if i=t then some 1 else some 0
  lead:∀ t j,t < L→j < P t→g t j=some 0
  rest:∀ i j,L≤i→i < r→j < c→g i j=some 0
end
end Go.Di
namespace Go.Di
end Go.Di
namespace Go.Di
theorem zyH {r c:Nat} {g:Nat→Nat→Option Rat} {i k:Nat} {x:Int} (hr:r≤1000) (hc:c≤1000) (hi:i < r) (hk:k < c) :
    zdm ⟨x,c,(grid r c g).map ro⟩ i k=some (ro (g i k)):=by
  unfold zdm
  simp only[zmu (show i < 1000 by omega) hc (show k < 1000 by omega),zi0 hi hk,Option.bind_some]
def bes (c:Nat) (g h:Nat→Nat→Option Rat):Nat→Nat→Option Rat:=fun i k=>if k < c then g i k else h i (k - c)
section
variable {r c c':Nat} {g h:Nat→Nat→Option Rat}
theorem impl_bes (hr:r≤24) (hc:c≤24) (hc':c'≤24) (x y:Int):zfR ⟨r,c,(grid r c g).map ro⟩ ⟨x,c',(grid r c' h).map ro⟩=some ⟨r,((c+c':Nat):Int),(grid r (c+c') (bes c g h)).map ro⟩:=by
  have ew:IntKind.i64.wrap ((c:Int)+(c':Int))=((c+c':Nat):Int):=by rw[wrap_i64 (by omega) (by omega)]; omega
  unfold zfR zb5 zdc
  simp only[ew]
  rw [grid_loop (S:=zaJ) (fun i out=>(((c+c':Nat):Int),(r:Int),(c:Int),(grid r c g).map ro,x,(c':Int),(grid r c' h).map ro,(r:Int),i,0,0,[],(r:Int),((c+c':Nat):Int),out,())) (fun i k=>ro (bes c g h i k)) r (c+c') (r:=fun out=>(0,0,[],(r:Int),((c+c':Nat):Int),out,())) (fun i out hi ho=>by
    unfold zaJ zdb
    simp only[dlt hi,cond_true]
    rw [app_from (S:=zaI) out (fun k out=>(((c+c':Nat):Int),(r:Int),(c:Int),(grid r c g).map ro,x,(c':Int),(grid r c' h).map ro,(i:Int),(r:Int),(i:Int),((c+c':Nat):Int),k,0,0,[],(r:Int),((c+c':Nat):Int),out,())) (fun k=>ro (bes c g h i k)) (c+c') (r:=fun out=>(((c+c':Nat):Int),(r:Int),(c:Int),(grid r c g).map ro,x,(c':Int),(grid r c' h).map ro,(r:Int),(i:Int),0,0,[],(r:Int),((c+c':Nat):Int),out,())) (fun k xs hk hx=>by
      have hroom:zak (Nat.ble (xs.length+1) zan)=some ():=zm7 (by
        have:i * (c+c')≤24 * 48:=Nat.mul_le_mul (by omega) (by omega)
        omega)
      have hc1:zed (i:Int) (k:Int) ⟨r,c,(grid r c g).map ro⟩ ⟨x,c',(grid r c' h).map ro⟩=some (ro (bes c g h i k)):=by
        unfold zed bes
        by_cases hkc:k < c
        · simp only[decide_eq_true (show (k:Int) < (c:Int) by omega),cond_true,zyH (show r≤1000 by omega) (show c≤1000 by omega) hi hkc,Option.bind_some,if_pos hkc]
        · have e1:IntKind.i64.wrap ((k:Int) - (c:Int))=((k - c:Nat):Int):=by rw[wrap_i64 (by omega) (by omega)]; omega
          simp only[decide_eq_false (show ¬ (k:Int) < (c:Int) by omega),cond_false,e1,zyH (show r≤1000 by omega) (show c'≤1000 by omega) hi (show k - c < c' by omega),Option.bind_some,if_neg hkc]
      simp only[zaI,dlt hk,cond_true,hc1,Option.bind_some,hroom,zaq hk (show c+c'≤1048576 by omega)]) (fun out _=>by simp[zaI])]
    simp only[Option.bind_some,zaq hi (show r≤1048576 by omega)]) (fun out _=>by simp[zaJ])]
  rw[zhz]; rfl
theorem zqI (hg:zfB r c g) (hh:zfB r c' h):zfB r (c+c') (bes c g h):=fun i k hi hk=>by
  unfold bes
  split
  · rename_i e; exact hg i k hi e
  · exact hh i (k - c) hi (by omega)
/-! ### Columns in front do not hang on those behind -/
end
theorem zMl {l:List Int} {n:Nat} (h:n≤1000) (hl:l.length≤1000):zfl l n=some ((List.range n).all fun i=>l[i]? == some (i:Int)):=by
  unfold zfl zh5
  have key:=stop_loop (S:=zbW) (fun i=>(l,(n:Int),(i:Int),())) n (fun i=>l[i]? == some (i:Int)) (.inl (false,())) (.inr ()) (fun i hi _=>by
    by_cases hil:i < l.length
    · have e0:decide ((i:Int) ≥ (l.length:Int))=false:=decide_eq_false (by omega)
      have e1:l[i]? = some l[i]:=List.getElem?_eq_getElem hil
      simp only[zbW,dlt hi,cond_true,e0,cond_false,zaM hil,Option.bind_some,e1,zaq hi (show n≤1048576 by omega)]
      by_cases h2:l[i]=(i:Int)
      · have:(l[i] != (i:Int))=false:=by rw[h2]; simp
        rw[this,h2]; simp
      · have h3:(l[i] != (i:Int))=true:=by simpa using h2
        have h4:((some l[i]:Option Int)==some (i:Int))=false:=by simpa using h2
        rw[h3,h4]; rfl
    · have e0:decide ((i:Int) ≥ (l.length:Int))=true:=decide_eq_true (by omega)
      have e1:l[i]? = none:=List.getElem?_eq_none (by omega)
      simp only[zbW,dlt hi,cond_true,e0,e1]
      rfl) (fun _=>by simp[zbW])
  refine (congrArg (fun x=>Option.bind x _) key).trans ?_
  cases (List.range n).all fun i=>l[i]? == some (i:Int)<;>rfl
end Go.Di
namespace Go.Di
end Go.Di
namespace Go.Di
end Go.Di
namespace Go.Di
section
variable {n m:Nat}
end
/-! ### Three rows -/
section
variable {a b c d e f g h i:Rat}
end
end Go.Di
namespace Go.Di
section
variable {r c c':Nat} {g h:Nat→Nat→Option Rat}
theorem zGC {xs:List Rt} (hr:r≤24) (hc:c≤200) (hl:xs.length=r * c) {i:Nat} (hi:i < r) (x:Int) :
    zdf ⟨x,c,xs⟩ i=some (cut xs (i * c) (i * c+c)):=by
  have h:=zqY hr hc hl hi x
  unfold zaK at h
  unfold zdf
  obtain ⟨_,h1,h⟩:=Option.bind_eq_some_iff.1 h
  simp only[] at h1 ⊢
  rw[h1,Option.bind_some]
  have h2:=congrArg Prod.fst (Option.some.inj h)
  have h3:=congrArg Prod.fst h2
  have h4:=congrArg Prod.snd h2
  simp only[] at h3 h4
  have hp:r * c≤24 * 200:=Nat.mul_le_mul hr hc
  have hq:(i+1) * c≤r * c:=Nat.mul_le_mul_right _ (by omega)
  have hq2:(i+1) * c=i * c+c:=Nat.succ_mul i c
  have e2:(((i+1:Nat):Int) * (c:Int))=(((i+1) * c:Nat):Int):=by simp
  have e3:(IntKind.i64.wrap ((IntKind.i64.wrap ((i:Int)+1)) * (c:Int))).toNat=i * c+c:=by
    rw[zGk (n:=1000) (by omega) (by omega),e2,wrap_i64 (by omega) (by omega),Int.toNat_natCast,hq2]
  rw[h3,e3]
theorem zL0 (hr:r≤24) (hc:c≤200) {i:Nat} (hi:i < r) (x:Int):zdf ⟨x,c,(grid r c g).map ro⟩ i=some (((List.range c).map (g i)).map ro):=by
  rw[zGC hr hc (by rw[List.length_map,zaX]) hi x,zCh hi]
theorem zw1 (hg:zfB r c g) (hc:c≤200) {i:Nat} (hi:i < r):zdq (((List.range c).map (g i)).map ro)=some (((List.range c).map (g i)).map ro) :=
  spec_copyVec (zCm (fun o ho=>by
    obtain ⟨k,hk,rfl⟩:=List.mem_map.1 ho
    exact (hg i k hi (List.mem_range.1 hk)).1) (by simp; omega)).fit
theorem zL1 (i:Nat):((List.range c).map (g i)).map ro++((List.range c').map (h i)).map ro=(List.range (c+c')).map fun k=>ro (bes c g h i k):=by
  rw[List.range_add,List.map_append,List.map_map,List.map_map,List.map_map]
  congr 1
  · apply List.map_congr_left
    intro k hk
    have:=List.mem_range.1 hk
    simp[bes,this]
  · apply List.map_congr_left
    intro k hk
    simp[bes,show ¬ c+k < c by omega]
theorem zGt (hr:r≤24) (hc:c≤24) (hc':c'≤24) (hg:zfB r c g) (hh:zfB r c' h) (x:Int) :
    zec ⟨r,c,(grid r c g).map ro⟩ ⟨x,c',(grid r c' h).map ro⟩=some ⟨r,((c+c':Nat):Int),(grid r (c+c') (bes c g h)).map ro⟩:=by
  have ew:IntKind.i64.wrap ((c:Int)+(c':Int))=((c+c':Nat):Int):=by rw[wrap_i64 (by omega) (by omega)]; omega
  unfold zec zgC
  simp only[ew]
  rw [grid_loop (S:=zbQ) (fun i out=>(i,(r:Int),(c:Int),(grid r c g).map ro,x,(c':Int),(grid r c' h).map ro,0,0,[],(r:Int),((c+c':Nat):Int),out,())) (fun i k=>ro (bes c g h i k)) r (c+c') (r:=fun out=>(0,0,[],(r:Int),((c+c':Nat):Int),out,())) (fun i out hi ho=>by
    have hro:i * (c+c')≤24 * 48:=Nat.mul_le_mul (by omega) (by omega)
    unfold zbQ
    simp only[dlt hi,cond_true,zL0 hr (show c≤200 by omega) hi,zL0 hr (show c'≤200 by omega) hi,zw1 hg (show c≤200 by omega) hi,zw1 hh (show c'≤200 by omega) hi,Option.bind_some]
    rw[room (by simp; omega),room (by simp; omega)]
    simp only[Option.bind_some,zaq hi (show r≤1048576 by omega),List.append_assoc,zL1]) (fun out _=>by simp[zbQ])]
  rw[zhz]; rfl
end
theorem zEd {r c n:Nat} {f:ES} (hR:RInv r c c f) (hn:n≤f.pv.length) (h0:0 < n):((List.range n).all fun i=>f.pv[i]? == some (i:Int))=!((f.pv[n - 1]?).getD 0 != ((n - 1:Nat):Int)):=by
  have hv:=hR.val (n - 1) (by omega)
  have up:∀ t,t < n→t≤piv f t:=by
    intro t
    induction t with
    | zero=>intro _; omega
    | succ t ih=>intro h; have:=hR.asc t (t+1) (by omega) (by omega); have:=ih (by omega); omega
  have down:∀ s t,t+s+1=n→piv f t+s≤piv f (n - 1):=by
    intro s
    induction s with
    | zero=>intro t h; rw[show n - 1=t by omega]; omega
    | succ s ih=>intro t h; have:=hR.asc t (t+1) (by omega) (by omega); have:=ih (t+1) (by omega); omega
  rw[Bool.eq_iff_iff,List.all_eq_true,hv,Option.getD_some]
  simp only[Bool.not_eq_true',bne_eq_false_iff_eq,beq_iff_eq,List.mem_range]
  constructor
  · intro h
    have:=h (n - 1) (by omega)
    rw[hv] at this
    exact Option.some.inj this
  · intro h t ht
    rw[hR.val t (by omega)]
    have h1:=up t ht
    have h2:=down (n - t - 1) t (by omega)
    have:piv f t=t:=by omega
    rw[this]
theorem zzU {f:ES} {n:Nat} (h:f.pv.length < n):((List.range n).all fun i=>f.pv[i]? == some (i:Int))=false:=by
  rw[← Bool.not_eq_true,List.all_eq_true]
  intro h2
  have:=eq_of_beq (h2 f.pv.length (List.mem_range.2 h))
  rw[List.getElem?_eq_none (Nat.le_refl _)] at this
  cases this
theorem zzV {α:Type} {r c n:Nat} {f:ES} (hR:RInv r c c f) (hn:n≤24) (a b:Option α) :
    cond (decide ((f.pv.length:Int) < (n:Int))) b (cond (decide ((n:Int) > 0)) ((idx f.pv (IntKind.i64.wrap ((n:Int) - 1))).bind fun _=>(f.pv[(IntKind.i64.wrap ((n:Int) - 1)).toNat]?).bind fun e=>cond (e != (IntKind.i64.wrap ((n:Int) - 1))) b a) a) =
      cond ((List.range n).all fun i=>f.pv[i]? == some (i:Int)) a b:=by
  by_cases hl:f.pv.length < n
  · rw[decide_eq_true (by omega),cond_true,zzU hl,cond_false]
  · rw [decide_eq_false (by omega),cond_false]
    by_cases h0:0 < n
    · have ew:IntKind.i64.wrap ((n:Int) - 1)=((n - 1:Nat):Int):=by rw[wrap_i64 (by omega) (by omega)]; omega
      have hg:f.pv[n - 1]? = some (f.pv[n - 1]'(by omega)):=List.getElem?_eq_getElem (by omega)
      rw[decide_eq_true (by omega),cond_true,ew,zaM (by omega),Option.bind_some,Int.toNat_natCast,zEd hR (by omega) h0,hg,Option.bind_some,Option.getD_some]
      cases (f.pv[n - 1]'(by omega) != ((n - 1:Nat):Int))<;>rfl
    · rw[decide_eq_false (by omega),cond_false,show n=0 by omega]; rfl
theorem zpQ {n:Nat}:zfB n n idO:=fun i k _ _=>⟨zL7 i k,by unfold idO; split<;>rfl⟩
theorem spec_inverse {n:Nat} (hn:n≤12) {g:Nat→Nat→Option Rat} (hg:zfB n n g) :
    (∀ f,elim n (n+n) (bes n g idO) (n+n)=some f→zcl ⟨n,n,(grid n n g).map ro⟩=some (cond ((List.range n).all fun i=>f.pv[i]? == some (i:Int)) (⟨n,n,(grid n n fun i k=>f.g i (n+k)).map ro⟩,true) (⟨0,0,[]⟩,false))) ∧
    (elim n (n+n) (bes n g idO) (n+n)=none→zcl ⟨n,n,(grid n n g).map ro⟩=some (⟨0,0,[]⟩,false)):=by
  have hb:=zqI hg (zpQ (n:=n))
  have hp:=zq2 (show n≤24 by omega) (show n+n≤24 by omega)
  unfold zcl
  simp only[zy2 (show n≤24 by omega),Option.bind_some,zGt (show n≤24 by omega) (show n≤24 by omega) (show n≤24 by omega) hg zpQ]
  rcases ztV (show n≤24 by omega) (show n+n≤200 by omega) hb with ⟨f,e1,e2⟩ | ⟨e1,lo,pv,fs,l1,l2,e2⟩
  · refine ⟨fun f' e=>?_,fun e=>by rw[e1] at e; cases e⟩
    rw[e1] at e; injection e with e; subst e
    have inv:=zi4 hb (Nat.le_refl _) e1
    have hR:=zER hb (Nat.le_refl _) e1
    simp only[e2,Option.bind_some,zEH (show n≤24 by omega) (show n+n≤200 by omega) inv.good,Bool.not_true,cond_false]
    have hloop:zcF n 0 0 0 [] n ((n+n:Nat):Int) ((grid n (n+n) f.g).map ro) n n []=some (0,0,[],(n:Int),(n:Int),(grid n n fun i k=>f.g i (n+k)).map ro,()):=by
      unfold zcF
      rw [grid_loop (S:=zbg) (fun i out=>((n:Int),i,0,0,[],(n:Int),((n+n:Nat):Int),(grid n (n+n) f.g).map ro,(n:Int),(n:Int),out,())) (fun i k=>ro (f.g i (n+k))) n n (r:=fun out=>(0,0,[],(n:Int),(n:Int),out,())) (fun i out hi ho=>by
        have hro:i * n≤24 * 24:=Nat.mul_le_mul (by omega) (by omega)
        have hcut:cut (((List.range (n+n)).map (f.g i)).map ro) n (((List.range (n+n)).map (f.g i)).map ro).length=(List.range n).map fun k=>ro (f.g i (n+k)):=by
          unfold cut
          rw[List.take_length,List.range_add,List.map_append,List.map_append,List.drop_left' (by simp),List.map_map,List.map_map]; rfl
        have hin:inside (((List.range (n+n)).map (f.g i)).map ro).length ((n:Int),(((((List.range (n+n)).map (f.g i)).map ro).length:Nat):Int))=true:=by
          unfold inside
          simp only[Bool.and_eq_true,decide_eq_true_iff,List.length_map,List.length_range]
          omega
        unfold zbg
        simp only[dlt hi,cond_true,zL0 (show n≤24 by omega) (show n+n≤200 by omega) hi,Option.bind_some,hin,zhy,Int.toNat_natCast,hcut]
        rw[room (by simp; omega)]
        simp only[Option.bind_some,zaq hi (show n≤1048576 by omega)]) (fun out _=>by simp[zbg])]
      rw[zhz]
    simp only[hloop,Option.bind_some]
    have:=zzV hR (show n≤24 by omega) (some ((⟨n,n,(grid n n fun i k=>f.g i (n+k)).map ro⟩:Mx),true)) (some (⟨0,0,[]⟩,false))
    rw[this]
    cases (List.range n).all fun i=>f.pv[i]? == some (i:Int)<;>rfl
  · refine ⟨fun f' e=>(by rw[e1] at e; cases e),fun _=>?_⟩
    simp only[e2,Option.bind_some,zm0 (show lo.length≤1048576 by omega),l2,Bool.not_false,cond_true]
end Go.Di
namespace Go.Di
theorem zHx {l m:List TRt} (h:l.Sublist m):(zh2 l).Sublist (zh2 m):=by
  induction h with
  | slnil=>exact List.Sublist.slnil
  | cons a _ ih=>exact (ih.cons _).cons _
  | cons_cons a _ ih=>exact (ih.cons_cons _).cons_cons _
theorem zHz {α:Type} (r c n:Nat) (t:Nat→Nat→α):(grid r n fun i k=>t i (c+k)).Sublist (grid r (c+n) t):=by
  induction r with
  | zero=>exact List.Sublist.slnil
  | succ r ih =>
    rw[zij,zij]
    refine ih.append ?_
    rw[List.range_add,List.map_append,List.map_map]
    exact List.sublist_append_right _ _
def tg (l:List Rt) (c:Nat):Nat→Nat→TRt:=fun i k=>((zmC 0 l)[i * c+k]?).getD ⟨false,⟨0,[]⟩,⟨1,[]⟩⟩
theorem zpG:∀ (n:Nat) (l:List Rt),(zmC n l).length=l.length
  | _,[]=>rfl
  | n,_ :: l=>by simp[zmC,zpG (n+2) l]
theorem zBg {l:List Rt} {r c:Nat} (h:l.length=r * c):grid r c (tg l c)=zmC 0 l:=zNk (by rw[zpG,h]) _
theorem zQM {r c:Nat} {g:Nat→Nat→Option Rat} {i k:Nat} (hi:i < r) (hk:k < c):TRt.er (tg ((grid r c g).map ro) c i k)=ro (g i k):=by
  have h1:i * c+k < (zmC 0 ((grid r c g).map ro)).length:=by rw[zpG,List.length_map,zaX]; exact zqJ hi hk
  have h2:=zet (g:=g) hi hk
  have h3:=congrArg (fun l=>l[i * c+k]?) (ztT 0 ((grid r c g).map ro))
  simp only[List.getElem?_map] at h3 h2
  rw[h2] at h3
  unfold tg
  rw[List.getElem?_eq_getElem h1] at h3 ⊢
  exact Option.some.inj h3
theorem zOj {l:List Rt} {r c n:Nat} (h:l.length=r * (c+n)):(zh2 (grid r n fun i k=>tg l (c+n) i (c+k))).Nodup :=
  (zHx (by rw[← zBg h]; exact zHz r c n _)).nodup (zmR 0 l).1
theorem zPI {r c:Nat} {t:Nat→Nat→TRt} {i k:Nat} {x:Int} (hr:r≤1000) (hc:c≤1000) (hi:i < r) (hk:k < c) :
    za6 ⟨x,c,grid r c t⟩ i k=some (t i k):=by
  have h1:i * c+k < (grid r c t).length:=by rw[zaX]; exact zqJ hi hk
  have h2:=zpS t hi hk
  rw[List.getElem?_eq_getElem h1] at h2
  unfold za6
  simp only[zmu (show i < 1000 by omega) hc (show k < 1000 by omega),zaM h1,Option.bind_some,Option.some.inj h2]
theorem zCl {n:Nat} (hn:n≤24) {t:Nat→Nat→TRt} (x:Int) (pv:List Int) (mc:List Rt) (y:Int) :
    za0 n n ⟨x,((n+n:Nat):Int),grid n (n+n) t,pv,()⟩ ⟨n,y,mc⟩=some ⟨n,n,grid n n fun i k=>t i (n+k)⟩:=by
  unfold za0 zct
  simp only[]
  rw [grid_loop (S:=zaD) (fun i out=>((n:Int),x,((n+n:Nat):Int),grid n (n+n) t,pv,(),(n:Int),y,mc,(n:Int),i,0,0,[],(n:Int),(n:Int),out,())) (fun i k=>t i (n+k)) n n (r:=fun out=>(0,0,[],(n:Int),(n:Int),out,())) (fun i out hi ho=>by
    unfold zaD zcs
    simp only[dlt hi,cond_true]
    rw [app_from (S:=zaC) out (fun k out=>((n:Int),x,((n+n:Nat):Int),grid n (n+n) t,pv,(),(n:Int),y,mc,(i:Int),(n:Int),(i:Int),(n:Int),k,0,0,[],(n:Int),(n:Int),out,())) (fun k=>t i (n+k)) n (r:=fun out=>((n:Int),x,((n+n:Nat):Int),grid n (n+n) t,pv,(),(n:Int),y,mc,(n:Int),(i:Int),0,0,[],(n:Int),(n:Int),out,())) (fun k xs hk hx=>by
      have e1:IntKind.i64.wrap ((n:Int)+(k:Int))=((n+k:Nat):Int):=by rw[wrap_i64 (by omega) (by omega)]; omega
      have hc1:zcO (i:Int) (k:Int) ⟨x,((n+n:Nat):Int),grid n (n+n) t,pv,()⟩ ⟨n,y,mc⟩=some (t i (n+k)):=by
        unfold zcO
        simp only[e1,zPI (show n≤1000 by omega) (show n+n≤1000 by omega) hi (show n+k < n+n by omega),Option.bind_some]
      simp only[zaC,dlt hk,cond_true,hc1,Option.bind_some,zwl hi hk hn hn ho hx,zaq hk (show n≤1048576 by omega)]) (fun out _=>by simp[zaC])]
    simp only[Option.bind_some,zaq hi (show n≤1048576 by omega)]) (fun out _=>by simp[zaD])]
  rfl
theorem zrH {n:Nat} (hn:n≤12) {g:Nat→Nat→Option Rat} (hg:zfB n n g) :
    (∀ f,elim n (n+n) (bes n g idO) (n+n)=some f→zc8 ⟨n,n,(grid n n g).map ro⟩=some (cond ((List.range n).all fun i=>f.pv[i]? == some (i:Int)) (⟨n,n,(grid n n fun i k=>f.g i (n+k)).map ro⟩,true,true) (⟨0,0,[]⟩,true,false))) ∧
    (elim n (n+n) (bes n g idO) (n+n)=none→zc8 ⟨n,n,(grid n n g).map ro⟩=some (⟨0,0,[]⟩,false,false)):=by
  have hb:=zqI hg (zpQ (n:=n))
  unfold zc8
  simp only[zvh (show n≤24 by omega),Option.bind_some,impl_bes (show n≤24 by omega) (show n≤24 by omega) (show n≤24 by omega) (n:Int) 0]
  rcases zvi (show n≤24 by omega) (show n+n≤200 by omega) hb with ⟨f,e3,e4⟩ | ⟨e3,e4⟩
  · refine ⟨fun f' e=>?_,fun e=>by rw[e3] at e; cases e⟩
    rw[e3] at e; injection e with e; subst e
    have inv:=zi4 hb (Nat.le_refl _) e3
    have hlead:=zMl (l:=f.pv) (n:=n) (by omega) (by have:=inv.used; omega)
    have hlen:((grid n (n+n) f.g).map ro).length=n * (n+n):=by rw[List.length_map,zaX]
    simp only[zwq e4,Option.bind_some,Bool.not_true,cond_false,hlead]
    cases (List.range n).all fun i=>f.pv[i]? == some (i:Int) with
    | false=>rfl
    | true =>
      simp only[Bool.not_true,cond_false,cond_true]
      rw[← zBg hlen,zCl (show n≤24 by omega),Option.bind_some]
      simp only[]
      have hT:(grid n n fun i k=>tg ((grid n (n+n) f.g).map ro) (n+n) i (n+k)).map TRt.er=(grid n n fun i k=>f.g i (n+k)).map ro:=by
        rw[zhz TRt.er,zhz ro n n]
        exact zaG fun i k hi hk=>zQM hi (show n+k < n+n by omega)
      rw[znC (zOj hlen),Option.bind_some,hT]
  · refine ⟨fun f' e=>(by rw[e3] at e; cases e),fun _=>?_⟩
    simp only[zwq e4,Option.bind_some,Bool.not_false,cond_true]
end Go.Di
namespace Go.Di
end Go.Di
namespace Go.Di
section
variable {r n d:Nat}
end
theorem zrI {m:Mx} (hm:zpF Rt.fit m.cells):∃ R b,zfk m=some (R,b)∧zdn m=some (R,b)∧Rfit R.cells:=by
  unfold zfk zdn
  rw[zBp hm,zEp hm,Option.bind_some,Option.bind_some]
  cases hb:mxB m with
  | false=>exact ⟨_,_,rfl,rfl,zkM⟩
  | true =>
    simp only[Bool.not_true,cond_false]
    cases hrc:(m.rows != m.cols) with
    | true=>exact ⟨_,_,rfl,rfl,zkM⟩
    | false =>
    cases h12:decide (m.rows > 12) with
    | true=>exact ⟨_,_,rfl,rfl,zkM⟩
    | false =>
    obtain ⟨r,c,q,hq⟩:=zGR hb
    obtain ⟨hr,hc,hl,hf,rfl⟩:=hq
    have hcr:c=r:=by simp only[bne_eq_false_iff_eq] at hrc; omega
    subst hcr
    have hn:c≤12:=by simp only[decide_eq_false_iff_not] at h12; omega
    have hg:=zHB hl hf
    obtain ⟨s1,s2⟩:=spec_inverse hn hg
    obtain ⟨t1,t2⟩:=zrH hn hg
    simp only[cond_false]
    rw[← zHA hl]
    cases e:elim c (c+c) (bes c (gof q c) idO) (c+c) with
    | none =>
      rw[s2 e,t2 e]
      exact ⟨_,_,rfl,rfl,zkM⟩
    | some f =>
      rw[s1 f e,t1 f e]
      have inv:=zi4 (zqI hg zpQ) (Nat.le_refl _) e
      cases (List.range c).all fun i=>f.pv[i]? == some (i:Int) with
      | false=>exact ⟨_,_,rfl,rfl,zkM⟩
      | true=>exact ⟨_,_,rfl,rfl,zCn hr hr fun i k hi hk=>(inv.good i (c+k) hi (by omega)).1⟩
theorem law_Inverse (m:Mx) (h:CK.wf (.sl .rat) m.cells):M_laws_FnExactInverse m=some true:=by
  unfold M_laws_FnExactInverse
  refine zQO (zQN h (by omega) (by omega)) fun r r0 r1=>?_
  have f:=zwm (l:=m.cells) (by omega)
  have f1:=f.few
  obtain ⟨R,b,hs,hi,g⟩:=zrI f.fit
  have g1:=g.few
  simp (disch:=omega) only[zQK f.fit,hs,hi,Option.bind_some,zPv f.fit,zPv g.fit,zmU,beq_self_eq_true,Bool.not_true,cond_false,zCL f.fit f.few,zCL g.fit g.few,zNj g.fit g.few,zQz,zND]
end Go.Di
