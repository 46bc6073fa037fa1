/-
  Own work: part 9 of the texts that the proof of the given statement leans on.
-/
import Derived.Test.YtemlaciidfaceaaGreatZSolveSystemP01
noncomputable section
namespace Go.Di
end Go.Di
namespace Go.Di
theorem zDb {n lo hi:Int}:inB n lo hi=true↔lo≤n∧n≤hi:=by
  unfold inB; simp only[Bool.and_eq_true,decide_eq_true_iff]
structure MxQ (m:Mx) (r c:Nat) (q:List Rat):Prop where
  r24:r≤24
  c24:c≤24
  len:q.length=r * c
  fits:Fits q
  eq:m=⟨r,c,q.map rq⟩
theorem zvI {r c:Nat} (hr:r≤24) (hc:c≤24):r * c≤576:=by
  calc r * c≤24 * 24:=Nat.mul_le_mul hr hc
    _=576:=rfl
theorem zFs {m:Mx} (h:mxB m=true):∃ r c q,MxQ m r c q:=by
  unfold mxB at h
  simp only[Bool.and_eq_true,zDb] at h
  obtain ⟨⟨h1,h2⟩,⟨h3,h4⟩,h5,h6⟩:=h
  obtain ⟨q,hq,he⟩:=zuD h6
  obtain ⟨rows,cols,cells⟩:=m
  simp only at *
  obtain ⟨r,rfl⟩:=Int.eq_ofNat_of_zero_le h1
  obtain ⟨c,rfl⟩:=Int.eq_ofNat_of_zero_le h3
  have hp:=zvI (show r≤24 by omega) (show c≤24 by omega)
  have e1:((r:Int) * (c:Int))=((r * c:Nat):Int):=by simp
  rw[e1,wrap_i64 (by omega) (by omega),beq_iff_eq] at h5
  subst he
  exact ⟨r,c,q,by omega,by omega,by rw[List.length_map] at h5; omega,hq,rfl⟩
theorem zPk {r c:Nat} {q:List Rat} (hr:r≤24) (hc:c≤24) (hl:q.length=r * c) (hf:Fits q):mxB ⟨r,c,q.map rq⟩=true:=by
  have hp:=zvI hr hc
  have e1:((r:Int) * (c:Int))=((r * c:Nat):Int):=by simp
  unfold mxB
  simp only[Bool.and_eq_true,zDb,zBc hf,List.length_map]
  rw[e1,wrap_i64 (by omega) (by omega),beq_iff_eq,hl]
  exact ⟨⟨by omega,by omega⟩,⟨by omega,by omega⟩,rfl,trivial⟩
theorem znF {i c k:Nat} (hi:i < 1000) (hc:c≤1000) (hk:k < 1000):IntKind.i64.wrap (IntKind.i64.wrap ((i:Int) * (c:Int))+(k:Int))=((i * c+k:Nat):Int):=by
  have hp:i * c≤1000 * 1000:=Nat.mul_le_mul (by omega) hc
  have e1:((i:Int) * (c:Int))=((i * c:Nat):Int):=by simp
  rw[e1,wrap_i64 (n:=((i * c:Nat):Int)) (by omega) (by omega),wrap_i64 (by omega) (by omega)]
  simp
theorem zu5 {i r c k:Nat} (hi:i < r) (hk:k < c):i * c+k < r * c:=by
  have:(i+1) * c≤r * c:=Nat.mul_le_mul_right _ (by omega)
  rw[Nat.add_mul,Nat.one_mul] at this
  omega
/-! ### Matrices of integers -/
/-! ### Elements,rows,diagonals -/
/-! ### Products with vectors -/
theorem zz9 {v:List Rt} (h:zES v=true):∃ q:List Rat,Fits q∧q.length≤24∧v=q.map rq:=by
  unfold zES at h
  rw[Bool.and_eq_true,decide_eq_true_iff] at h
  obtain ⟨q,hq,rfl⟩:=zuD h.2
  exact ⟨q,hq,by simpa using h.1,rfl⟩
theorem all_some {l:List (Option Rat)} (h:l.all Option.isSome=true) (hk:∀ o∈l,Oks o):∃ q:List Rat,Fits q∧l.map ro=q.map rq∧q.length=l.length:=by
  induction l with
  | nil=>exact ⟨[],fun x hx=>(by cases hx),rfl,rfl⟩
  | cons o l ih =>
    rw[List.all_cons,Bool.and_eq_true] at h
    obtain ⟨q,hq,e,e2⟩:=ih h.2 fun x hx=>hk x (List.mem_cons_of_mem _ hx)
    cases o with
    | none=>cases h.1
    | some x =>
      refine ⟨x :: q,fun y hy=>?_,by rw[List.map_cons,List.map_cons,e]; rfl,by simp[e2]⟩
      rcases List.mem_cons.1 hy with rfl | hy
      · exact hk (some y) (List.mem_cons_self ..) y rfl
      · exact hq y hy
end Go.Di
namespace Go.Di
/-! ### Grids -/
def grid {α:Type} (r c:Nat) (g:Nat→Nat→α):List α:=(List.range r).flatMap fun i=>(List.range c).map (g i)
theorem zhY {α:Type} (r c:Nat) (g:Nat→Nat→α):grid (r+1) c g=grid r c g++(List.range c).map (g r):=by
  unfold grid; rw[List.range_succ,List.flatMap_append]; simp
theorem zaU {α:Type} (r c:Nat) (g:Nat→Nat→α):(grid r c g).length=r * c:=by
  induction r with
  | zero=>simp[grid]
  | succ r ih=>rw[zhY,List.length_append,ih,List.length_map,List.length_range,Nat.add_mul,Nat.one_mul]
theorem zj8 {α:Type} {r c:Nat} (g:Nat→Nat→α) {j:Nat} (h:j < r * c):(grid r c g)[j]? = some (g (j / c) (j % c)):=by
  induction r with
  | zero=>omega
  | succ r ih =>
    rw[zhY]
    by_cases hj:j < r * c
    · rw[List.getElem?_append_left (by rw[zaU]; exact hj)]; exact ih hj
    · rw [List.getElem?_append_right (by rw[zaU]; omega),zaU]
      rw[Nat.add_mul,Nat.one_mul] at h
      have hk:j - r * c < c:=by omega
      rw[List.getElem?_map,List.getElem?_range hk]
      have e:j=c * r+(j - r * c):=by rw[Nat.mul_comm c r]; omega
      have h1:j / c=r:=by
        rw[e,Nat.mul_add_div (by omega),Nat.div_eq_of_lt hk]; omega
      have h2:j % c=j - r * c:=by
        conv=>lhs; rw[e]
        rw[Nat.mul_add_mod,Nat.mod_eq_of_lt hk]
      rw[h1,h2]; rfl
theorem zpc {i c k:Nat} (hk:k < c):(i * c+k) / c=i∧(i * c+k) % c=k:=by
  constructor
  · rw[Nat.mul_comm,Nat.mul_add_div (by omega),Nat.div_eq_of_lt hk]; omega
  · rw[Nat.mul_comm,Nat.mul_add_mod,Nat.mod_eq_of_lt hk]
theorem zpu {α:Type} {r c:Nat} (g:Nat→Nat→α) {i k:Nat} (hi:i < r) (hk:k < c):(grid r c g)[i * c+k]? = some (g i k):=by
  rw[zj8 g (zu5 hi hk),(zpc hk).1,(zpc hk).2]
theorem zpt {α β:Type} (f:α→β) (r c:Nat) (g:Nat→Nat→α):(grid r c g).map f=grid r c fun i k=>f (g i k):=by
  unfold grid
  rw[List.map_flatMap]
  congr 1
  funext i
  rw[List.map_map]; rfl
theorem zps {α:Type} {r c:Nat} {g:Nat→Nat→α} {x:α} (h:x∈grid r c g):∃ i k,i < r∧k < c∧x=g i k:=by
  obtain ⟨i,hi,hx⟩:=List.mem_flatMap.1 h
  obtain ⟨k,hk,rfl⟩:=List.mem_map.1 hx
  exact ⟨i,k,List.mem_range.1 hi,List.mem_range.1 hk,rfl⟩
theorem zky {r c j:Nat} (h:j < r * c):j / c < r∧j % c < c∧j / c * c+j % c=j:=by
  have hc:0 < c:=by
    rcases Nat.eq_zero_or_pos c with h0 | h0
    · subst h0; simp at h
    · exact h0
  refine ⟨Nat.div_lt_of_lt_mul (by rw[Nat.mul_comm]; exact h),Nat.mod_lt _ hc,?_⟩
  rw[Nat.mul_comm]; exact Nat.div_add_mod j c
theorem zaK {α:Type} {r c:Nat} {g h:Nat→Nat→α} (e:∀ i k,i < r→k < c→g i k=h i k):grid r c g=grid r c h:=by
  apply List.ext_getElem?
  intro j
  by_cases hj:j < r * c
  · obtain ⟨h1,h2,_⟩:=zky hj
    rw[zj8 g hj,zj8 h hj,e _ _ h1 h2]
  · rw[List.getElem?_eq_none (by rw[zaU]; omega),List.getElem?_eq_none (by rw[zaU]; omega)]
theorem zF8 {α:Type} (r c:Nat) (f:Nat→α):grid r c (fun i k=>f (i * c+k))=(List.range (r * c)).map f:=by
  apply List.ext_getElem?
  intro j
  by_cases hj:j < r * c
  · rw[zj8 _ hj,(zky hj).2.2,List.getElem?_map,List.getElem?_range hj]; rfl
  · rw[List.getElem?_eq_none (by rw[zaU]; omega),List.getElem?_eq_none (by simp; omega)]
theorem zF7 {α:Type} {r c i k:Nat} (g:Nat→Nat→α) (x:α) (hi:i < r) (hk:k < c):(grid r c g).set (i * c+k) x=grid r c fun a b=>if a=i∧b=k then x else g a b:=by
  apply List.ext_getElem?
  intro j
  rw[List.getElem?_set]
  by_cases hj:j < r * c
  · obtain ⟨h1,h2,h3⟩:=zky hj
    rw[zj8 (fun a b=>if a=i∧b=k then x else g a b) hj]
    split
    · rename_i e
      rw[if_pos (by rw[zaU]; omega)]
      subst e
      rw[(zpc hk).1,(zpc hk).2,if_pos ⟨rfl,rfl⟩]
    · rename_i e
      rw[zj8 g hj,if_neg (by rintro ⟨e1,e2⟩; rw[e1,e2] at h3; exact e h3)]
  · rw[List.getElem?_eq_none (l:=grid r c _) (by rw[zaU]; omega),if_neg (by have:=zu5 hi hk; omega),List.getElem?_eq_none (by rw[zaU]; omega)]
theorem zLK {α:Type} {l:List α} {r c:Nat} (hl:l.length=r * c) (d:α):grid r c (fun i k=>(l[i * c+k]?).getD d)=l:=by
  rw[zF8 r c fun j=>(l[j]?).getD d,← hl,zmN]
/-! ### Loops -/
theorem app_from {β σ ρ:Type} {S:σ→Option (σ ⊕ ρ)} (x0:List β) (st:Int→List β→σ) (g:Nat→β) (n:Nat) {r:List β→ρ}
    (hS:∀ (i:Nat) out,i < n→out.length=x0.length+i→S (st (i:Int) out)=some (.inl (st ((i+1:Nat):Int) (out++[g i])))) (hE:∀ out,out.length=x0.length+n→S (st (n:Int) out)=some (.inr (r out))) :
    whileO S (st 0 x0)=some (r (x0++(List.range n).map g)):=by
  have key:=za0 S (fun i=>st (i:Int) (x0++(List.range i).map g)) n (r (x0++(List.range n).map g)) (fun i hi=>by
    rw[hS i _ hi (by simp),List.range_succ,List.map_append,List.append_assoc]; rfl) (hE _ (by simp))
  simpa using key
theorem grid_loop {β σ ρ:Type} {S:σ→Option (σ ⊕ ρ)} (st:Int→List β→σ) (g:Nat→Nat→β) (n c:Nat) {r:List β→ρ}
    (hS:∀ (i:Nat) out,i < n→out.length=i * c→S (st (i:Int) out)=some (.inl (st ((i+1:Nat):Int) (out++(List.range c).map (g i))))) (hE:∀ out,out.length=n * c→S (st (n:Int) out)=some (.inr (r out))) :
    whileO S (st 0 [])=some (r (grid n c g)):=by
  have key:=za0 S (fun i=>st (i:Int) (grid i c g)) n (r (grid n c g)) (fun i hi=>by
    rw[hS i _ hi (zaU ..),zhY]) (hE _ (zaU ..))
  simpa [grid] using key
/-! ### Identities -/
theorem zLO:Fit 1:=by
  have:=zuJ (n:=1) (by omega) (by omega)
  simpa using this
/-! ### Transposed matrices -/
def trans (q:List Rat) (r c:Nat):List Rat:=grid c r fun i k=>(q[k * c+i]?).getD 0
/-! ### Sums,products -/
/-! ### Parts -/
end Go.Di
namespace Go.Di
end Go.Di
namespace Go.Di
theorem zAn {o:Option Rat} (ho:Oks o):zfA (ro o)=some (ro (zO1 o)):=by
  unfold zfA
  cases o with
  | none =>
    have h0:zav (!(ro none).neg) (ro none).mag=some (bg 0):=by
      rw[zeS]
      show zav true (dg 0)=_
      rw[zdj true (by rw[zaB]; simp),zo3]
    rw[h0,Option.bind_some,room (by simp[ro]),Option.bind_some,zqi]; rfl
  | some q =>
    have fq:=ho q rfl
    show ((zav (!decide (q.num < 0)) (dg q.num.natAbs)).bind fun r1=>(zaj (Nat.ble (dg q.den).length zan)).bind fun _=>some (⟨r1.neg,r1.mag,dg q.den⟩:Rt))=_
    rw[zdj _ (by have:=fq.1; omega),Option.bind_some,room (by have:=fq.2; omega),Option.bind_some]
    have e:sg (!decide (q.num < 0)) q.num.natAbs = -q.num:=by
      by_cases h:q.num < 0
      · rw[decide_eq_true h]; simp only[sg,Bool.not_true,cond_false]; omega
      · rw[decide_eq_false h]; simp only[sg,Bool.not_false,cond_true]; omega
    rw[e]; rfl
theorem zAm {o p:Option Rat} (ho:Oks o) (hp:Oks p):zfy (ro o) (ro p)=some (ro (zoX o p)):=by
  unfold zfy
  rw[zAn hp,Option.bind_some,spec_addO ho (zvN hp)]; rfl
/-! ### Half tangents -/
/-! ### Lists of observations -/
end Go.Di
namespace Go.Di
end Go.Di
namespace Go.Di
theorem stop_loop {σ ρ:Type} {S:σ→Option (σ ⊕ ρ)} (st:Nat→σ) (n:Nat) (ok:Nat→Bool) (bad fin:ρ)
    (h:∀ i,i < n→(∀ j,j < i→ok j=true)→S (st i)=some (cond (ok i) (.inl (st (i+1))) (.inr bad)))
    (he:(∀ j,j < n→ok j=true)→S (st n)=some (.inr fin)):whileO S (st 0)=some (cond ((List.range n).all ok) fin bad):=by
  have key : ∀ s i,i+s=n→(∀ j,j < i→ok j=true)→whileO S (st i)=some (cond ((List.range n).all ok) fin bad):=by
    intro s
    induction s with
    | zero =>
      intro i hi hj
      have:i=n:=by omega
      subst this
      have ha:(List.range i).all ok=true:=by rw[List.all_eq_true]; intro x hx; exact hj x (List.mem_range.1 hx)
      rw[ha,cond_true]; exact zaA (he hj)
    | succ s ih =>
      intro i hi hj
      have hn:i < n:=by omega
      have hs:=h i hn hj
      cases hb:ok i with
      | true =>
        rw[hb,cond_true] at hs
        rw[zbm hs]
        exact ih (i+1) (by omega) fun j hji=>by
          by_cases e:j=i
          · rw[e]; exact hb
          · exact hj j (by omega)
      | false =>
        rw[hb,cond_false] at hs
        have ha:(List.range n).all ok=false:=by
          rw[← Bool.not_eq_true,List.all_eq_true]
          intro hall
          have:=hall i (List.mem_range.2 hn)
          rw[hb] at this; cases this
        rw[ha,cond_false]; exact zaA hs
  exact key n 0 (by omega) fun j hj=>by omega
def zuS (lo:List (Option Rat)) (p:Nat):Option Rat:=(lo[p]?).getD none
theorem zpq {lo:List (Option Rat)} {p:Nat} (h:p < lo.length):idx (lo.map ro) (p:Int)=some (ro (zuS lo p)):=by
  rw[zLI h]; unfold zuS; rw[List.getElem?_eq_getElem h]; rfl
theorem zDo {lo:List (Option Rat)} {p:Nat} (h:p < lo.length):(lo.map ro)[p]? = some (ro (zuS lo p)):=by
  rw[← zj4,zpq h]
theorem zKr (q:List Rat):q.map rq=(q.map some).map ro:=by rw[List.map_map]; rfl
theorem zF3 {lo:List (Option Rat)} {n c i k:Nat} {x:Int} (hl:lo.length=n * c) (hn:n≤1000) (hc:c≤1000) (hi:i < n) (hk:k < c) :
    zbk ⟨x,c,lo.map ro⟩ i k=some (ro (zuS lo (i * c+k)),lo.map ro):=by
  have hp:i * c+k < lo.length:=by rw[hl]; exact zu5 hi hk
  unfold zbk
  simp only[znF (show i < 1000 by omega) hc (show k < 1000 by omega),zpq hp,Option.bind_some,Int.toNat_natCast,zDo hp]
theorem zE5 {lo:List (Option Rat)} {n c i k:Nat} {x:Int} (hl:lo.length=n * c) (hn:n≤1000) (hc:c≤1000) (hi:i < n) (hk:k < c) :
    zaN ⟨x,c,lo.map ro⟩ i k=some (ro (zuS lo (i * c+k)),lo.map ro):=zF3 hl hn hc hi hk
section
variable {q lo:List (Option Rat)} {d:List Rat} {n k:Nat}
end
/-! ### A column -/
section
variable {q lo:List (Option Rat)} {d:List Rat} {n k:Nat} {x:Rat}
end
/-! ### All columns -/
structure FacOk (n k:Nat) (lo:List (Option Rat)) (d:List Rat):Prop where
  len:lo.length=n * n
  oks:∀ o∈lo,Oks o
  all:∀ o∈lo,o.isSome=true
  fits:Fits d
  dlen:d.length=k
  pos:∀ y∈d,0 < y
end Go.Di
namespace Go.Di
theorem zrZ {r c:Nat} {g:Nat→Nat→Option Rat} {i k:Nat} (hi:i < r) (hk:k < c):zuS (grid r c g) (i * c+k)=g i k:=by
  unfold zuS; rw[zpu g hi hk]; rfl
theorem zhC {r c:Nat} {g:Nat→Nat→Option Rat} {i k:Nat} {x:Int} (hr:r≤1000) (hc:c≤1000) (hi:i < r) (hk:k < c) :
    zaN ⟨x,c,(grid r c g).map ro⟩ i k=some (ro (g i k),(grid r c g).map ro):=by
  rw[zE5 (zaU r c g) hr hc hi hk,zrZ hi hk]
theorem zxT {r c:Nat} {g:Nat→Nat→Option Rat} {i k:Nat} {x:Int} (hr:r≤1000) (hc:c≤1000) (hi:i < r) (hk:k < c) :
    zbk ⟨x,c,(grid r c g).map ro⟩ i k=some (ro (g i k),(grid r c g).map ro):=zhC hr hc hi hk
theorem ziF {r c:Nat} {g:Nat→Nat→Option Rat} {i k:Nat} (hi:i < r) (hk:k < c):idx ((grid r c g).map ro) ((i * c+k:Nat):Int)=some (ro (g i k)):=by
  rw[zpq (by rw[zaU]; exact zu5 hi hk),zrZ hi hk]
theorem zeh {r c:Nat} {g:Nat→Nat→Option Rat} {i k:Nat} (hi:i < r) (hk:k < c):((grid r c g).map ro)[i * c+k]? = some (ro (g i k)):=by
  rw[← zj4,ziF hi hk]
theorem zgf {r c:Nat} {g h:Nat→Nat→Option Rat} {i k:Nat} {o:Option Rat} (hi:i < r) (hk:k < c) (e:∀ a b,a < r→b < c→h a b=if a=i∧b=k then o else g a b) :
    ((grid r c g).map ro).set (i * c+k) (ro o)=(grid r c h).map ro:=by
  rw[← List.map_set,zF7 g o hi hk]
  rw[zaK e]
theorem zqI (o:Option Rat):zc1 (ro o)=some (decide (o=some 0∨o=none)):=by
  cases o with
  | none=>simp[zc1,ro]
  | some q=>rw[show ro (some q)=rq q from rfl,zNa]; simp
def zdD (r c:Nat) (g:Nat→Nat→Option Rat):Prop:=∀ i k,i < r→k < c→Oks (g i k)∧(g i k).isSome=true
def swp (g:Nat→Nat→Option Rat) (p u:Nat):Nat→Nat→Option Rat:=fun a b=>if a=p then g u b else if a=u then g p b else g a b
def dvd (g:Nat→Nat→Option Rat) (u k:Nat):Nat→Nat→Option Rat:=fun a b=>if a=u then divO (g u b) (g u k) else g a b
def clr (g:Nat→Nat→Option Rat) (u k:Nat):Nat→Nat→Option Rat:=fun a b=>if a=u then g u b else if g a k=some 0 then g a b else zoX (g a b) (zl6 (g a k) (g u b))
def zhM (g:Nat→Nat→Option Rat) (k:Nat):Nat→Nat→Nat
  | 0,i=>i
  | s+1,i=>if g i k=some 0 then zhM g k s (i+1) else i
theorem zkR (g:Nat→Nat→Option Rat) (k:Nat):∀ s i,i≤zhM g k s i∧zhM g k s i≤i+s
  | 0,i=>⟨Nat.le_refl _,Nat.le_refl _⟩
  | s+1,i=>by
    unfold zhM
    split
    · have:=zkR g k s (i+1); omega
    · omega
theorem zmQ (g:Nat→Nat→Option Rat) (k:Nat):∀ s i a,i≤a→a < zhM g k s i→g a k=some 0
  | 0,i,a,h1,h2=>by unfold zhM at h2; omega
  | s + 1,i,a,h1,h2=>by
    unfold zhM at h2
    split at h2
    · by_cases e:a=i
      · rw[e]; assumption
      · exact zmQ g k s (i+1) a (by omega) h2
    · omega
theorem zmR (g:Nat→Nat→Option Rat) (k:Nat):∀ s i,zhM g k s i < i+s→g (zhM g k s i) k≠some 0
  | 0,i,h=>by unfold zhM at h; omega
  | s+1,i,h=>by
    unfold zhM at h ⊢
    split
    · rename_i h0; rw[if_pos h0] at h; exact zmR g k s (i+1) (by omega)
    · assumption
section
variable {r c:Nat} {g:Nat→Nat→Option Rat} {k u:Nat}
theorem sel_find (hr:r≤24) (hc:c≤200) (hg:zdD r c g) (hk:k < c) (hu:u≤r) (n:Int) (pv:List Int) (fs:List Rt) :
    zdW k n u r c ((grid r c g).map ro) pv fs=some ((k:Int),n,((zhM g k (r - u) u:Nat):Int),(r:Int),(c:Int),(grid r c g).map ro,pv,fs,()):=by
  unfold zdW
  have key : ∀ s i,i+s=r→whileO za1 ((k:Int),n,(i:Int),(r:Int),(c:Int),(grid r c g).map ro,pv,fs,())=some ((k:Int),n,((zhM g k s i:Nat):Int),(r:Int),(c:Int),(grid r c g).map ro,pv,fs,()):=by
    intro s
    induction s with
    | zero =>
      intro i hi
      apply zaA
      simp[za1,zhM,show i=r by omega]
    | succ s ih =>
      intro i hi
      have hir:i < r:=by omega
      by_cases h0:g i k=some 0
      · rw [zbm (y:=((k:Int),n,((i+1:Nat):Int),(r:Int),(c:Int),(grid r c g).map ro,pv,fs,()))]
        · rw[ih (i+1) (by omega),zhM,if_pos h0]
        · simp only[za1,dlt hir,cond_true,zhC (show r≤1000 by omega) (show c≤1000 by omega) hir hk,Option.bind_some,zqI,h0,zas hir (show r≤1048576 by omega)]
          simp
      · apply zaA
        have hsm:=(hg i k hir hk).2
        have hn:¬ (g i k=some 0∨g i k=none):=by
          rintro (h | h)
          · exact h0 h
          · rw[h] at hsm; cases hsm
        simp only[za1,dlt hir,cond_true,zhC (show r≤1000 by omega) (show c≤1000 by omega) hir hk,Option.bind_some,zqI,decide_eq_false hn,cond_false,zhM,if_neg h0]
  exact key (r - u) u (by omega)
theorem sel_swap (hr:r≤24) (hc:c≤200) {p:Nat} (hp:p < r) (hu:u < r) (k0:Int) (pv:List Int) (fs:List Rt) :
    zdV k0 u p 0 r c ((grid r c g).map ro) fs pv=some (k0,(u:Int),(r:Int),(c:Int),(grid r c (swp g p u)).map ro,fs,pv,()):=by
  unfold zdV
  have key := za0 zbi (fun j=>(k0,(u:Int),(p:Int),(j:Int),(r:Int),(c:Int),(grid r c (fun a b=>if b < j then swp g p u a b else g a b)).map ro,fs,pv,())) c
    (k0, (u : Int),(r:Int),(c:Int),(grid r c (fun a b=>if b < c then swp g p u a b else g a b)).map ro,fs,pv,()) (fun j hj=>by
      have e1:=znF (i:=p) (c:=c) (k:=j) (by omega) (by omega) (by omega)
      have e2:=znF (i:=u) (c:=c) (k:=j) (by omega) (by omega) (by omega)
      have s1:=zgf (r:=r) (c:=c) (g:=fun a b=>if b < j then swp g p u a b else g a b) (h:=fun a b=>if a=p∧b=j then g u j else if b < j then swp g p u a b else g a b) (o:=g u j) hp hj (fun a b _ _=>rfl)
      have s2:=zgf (r:=r) (c:=c) (g:=fun a b=>if a=p∧b=j then g u j else if b < j then swp g p u a b else g a b) (h:=fun a b=>if b < j+1 then swp g p u a b else g a b) (o:=g p j) hu hj (fun a b _ _=>by
        unfold swp
        by_cases hb:b=j
        · subst hb
          by_cases h1:a=u
          · subst h1
            by_cases h2:a=p
            · subst h2; simp
            · simp[h2]
          · by_cases h2:a=p
            · subst h2; simp[h1]
            · simp[h1,h2]
        · have:(b < j+1)=(b < j):=by rw[eq_iff_iff]; omega
          simp[hb,this])
      simp only[zbi,dlt hj,cond_true,e1,e2,ziF hp hj,ziF hu hj,Int.toNat_natCast,zeh hp hj,zeh hu hj,Option.bind_some,Nat.lt_irrefl,if_false,s1,s2,zas hj (show c≤1048576 by omega)]) (by simp[zbi])
  refine Eq.trans ?_ (key.trans ?_)
  · rw[zaK (r:=r) (c:=c) (g:=fun a b=>if b < 0 then swp g p u a b else g a b) (h:=g) (fun a b _ _=>by simp)]; rfl
  · rw[zaK (r:=r) (c:=c) (g:=fun a b=>if b < c then swp g p u a b else g a b) (h:=swp g p u) (fun a b _ hb=>by simp[hb])]
theorem sel_div (hr:r≤24) (hc:c≤200) (hg:zdD r c g) (hk:k < c) (hu:u < r) (k0:Int) (pv:List Int) (fs:List Rt) :
    L_spec_l07Reduce_m_3 k0 u k r c ((grid r c g).map ro) (ro (g u k)).neg (ro (g u k)).mag (ro (g u k)).den fs pv =
      some (k0,(u:Int),(r:Int),(c:Int),(grid r c (fun a b=>if a=u∧k≤b then divO (g u b) (g u k) else g a b)).map ro,fs,pv,()):=by
  unfold L_spec_l07Reduce_m_3
  have key := za0 zbh (fun j=>(k0,(u:Int),((k+j:Nat):Int),(r:Int),(c:Int),(grid r c (fun a b=>if a=u∧k≤b∧b < k+j then divO (g u b) (g u k) else g a b)).map ro,(ro (g u k)).neg,(ro (g u k)).mag,(ro (g u k)).den,fs,pv,())) (c - k)
    (k0, (u : Int),(r:Int),(c:Int),(grid r c (fun a b=>if a=u∧k≤b∧b < k+(c - k) then divO (g u b) (g u k) else g a b)).map ro,fs,pv,()) (fun j hj=>by
      have hj':k+j < c:=by omega
      have e1:=znF (i:=u) (c:=c) (k:=k+j) (by omega) (by omega) (by omega)
      have s1:=zgf (r:=r) (c:=c) (g:=fun a b=>if a=u∧k≤b∧b < k+j then divO (g u b) (g u k) else g a b) (h:=fun a b=>if a=u∧k≤b∧b < k+(j+1) then divO (g u b) (g u k) else g a b) (o:=divO (g u (k+j)) (g u k)) hu hj' (fun a b _ _=>by
        by_cases h1:a=u
        · subst h1
          by_cases h2:b=k+j
          · subst h2; rw[if_pos ⟨rfl,by omega,by omega⟩,if_pos ⟨rfl,rfl⟩]
          · rw[if_neg (show ¬ (a=a∧b=k+j) from fun h=>h2 h.2)]
            by_cases h3:k≤b∧b < k+j
            · rw[if_pos ⟨rfl,h3.1,by omega⟩,if_pos ⟨rfl,h3⟩]
            · rw[if_neg (by rintro ⟨_,h4,h5⟩; exact h3 ⟨h4,by omega⟩),if_neg (by rintro ⟨_,h4⟩; exact h3 h4)]
        · rw[if_neg (fun h=>h1 h.1),if_neg (fun h=>h1 h.1),if_neg (fun h=>h1 h.1)])
      have hd:=zAr (hg u (k+j) hu hj').1 (hg u k hu hk).1
      have ha:=zhC (r:=r) (c:=c) (g:=fun a b=>if a=u∧k≤b∧b < k+j then divO (g u b) (g u k) else g a b) (x:=(r:Int)) (show r≤1000 by omega) (show c≤1000 by omega) hu hj'
      rw[if_neg (by omega)] at ha
      simp only[zbh,decide_eq_true (show ((k+j:Nat):Int) < (c:Int) by omega),cond_true,ha,Option.bind_some]
      show ((zer (ro (g u (k+j))) (ro (g u k))).bind _)=_
      simp only[hd,Option.bind_some,e1,ziF hu hj',Int.toNat_natCast,s1,zas hj' (show c≤1048576 by omega)]
      rfl) (by simp only[zbh,decide_eq_false (show ¬ (((k+(c - k):Nat):Int) < (c:Int)) by omega),cond_false])
  refine Eq.trans ?_ (key.trans ?_)
  · rw[zaK (r:=r) (c:=c) (g:=fun a b=>if a=u∧k≤b∧b < k+0 then divO (g u b) (g u k) else g a b) (h:=g) (fun a b _ _=>if_neg (by omega))]; rfl
  · rw [zaK (r:=r) (c:=c) (g:=fun a b=>if a=u∧k≤b∧b < k+(c - k) then divO (g u b) (g u k) else g a b) (h:=fun a b=>if a=u∧k≤b then divO (g u b) (g u k) else g a b) (fun a b _ hb=>by
      by_cases h1:a=u∧k≤b
      · rw[if_pos h1,if_pos ⟨h1.1,h1.2,by omega⟩]
      · rw[if_neg h1,if_neg (fun h=>h1 ⟨h.1,h.2.1⟩)])]
def zmb (x f y:Option Rat):Option Rat:=if y=some 0∨y=none then x else zoX x (zl6 f y)
theorem sel_clear1 (hr:r≤24) (hc:c≤200) (hg:∀ i k,i < r→k < c→Oks (g i k)) {i:Nat} (hi:i < r) (hu:u < r) (hiu:i≠u) {f:Option Rat} (hf:Oks f) :
    L_spec_l07Clear_mdd_1 u k i k ((grid r c g).map ro) r c (ro f).neg (ro f).mag (ro f).den =
      some ((u:Int),(k:Int),(i:Int),(grid r c (fun a b=>if a=i∧k≤b then zmb (g i b) f (g u b) else g a b)).map ro,(r:Int),(c:Int),()):=by
  unfold L_spec_l07Clear_mdd_1
  have key := za0 zbb (fun j=>((u:Int),(k:Int),(i:Int),((k+j:Nat):Int),(grid r c (fun a b=>if a=i∧k≤b∧b < k+j then zmb (g i b) f (g u b) else g a b)).map ro,(r:Int),(c:Int),(ro f).neg,(ro f).mag,(ro f).den,())) (c - k)
    ((u : Int),(k:Int),(i:Int),(grid r c (fun a b=>if a=i∧k≤b∧b < k+(c - k) then zmb (g i b) f (g u b) else g a b)).map ro,(r:Int),(c:Int),()) (fun j hj=>by
      have hj':k+j < c:=by omega
      have e1:=znF (i:=i) (c:=c) (k:=k+j) (by omega) (by omega) (by omega)
      have s0:∀ a b,(if a=i∧k≤b∧b < k+(j+1) then zmb (g i b) f (g u b) else g a b)=if a=i∧b=k+j then zmb (g i (k+j)) f (g u (k+j)) else if a=i∧k≤b∧b < k+j then zmb (g i b) f (g u b) else g a b:=by
        intro a b
        by_cases h1:a=i
        · subst h1
          by_cases h2:b=k+j
          · subst h2; rw[if_pos ⟨rfl,by omega,by omega⟩,if_pos ⟨rfl,rfl⟩]
          · rw[if_neg (show ¬ (a=a∧b=k+j) from fun h=>h2 h.2)]
            by_cases h3:k≤b∧b < k+j
            · rw[if_pos ⟨rfl,h3.1,by omega⟩,if_pos ⟨rfl,h3⟩]
            · rw[if_neg (by rintro ⟨_,h4,h5⟩; exact h3 ⟨h4,by omega⟩),if_neg (by rintro ⟨_,h4⟩; exact h3 h4)]
        · rw[if_neg (fun h=>h1 h.1),if_neg (fun h=>h1 h.1),if_neg (fun h=>h1 h.1)]
      have s1:=zgf (r:=r) (c:=c) (g:=fun a b=>if a=i∧k≤b∧b < k+j then zmb (g i b) f (g u b) else g a b) (h:=fun a b=>if a=i∧k≤b∧b < k+(j+1) then zmb (g i b) f (g u b) else g a b) (o:=zmb (g i (k+j)) f (g u (k+j))) hi hj' (fun a b _ _=>s0 a b)
      have ha:=zhC (r:=r) (c:=c) (g:=fun a b=>if a=i∧k≤b∧b < k+j then zmb (g i b) f (g u b) else g a b) (x:=(r:Int)) (show r≤1000 by omega) (show c≤1000 by omega) hu hj'
      rw[if_neg (by rintro ⟨h,_⟩; exact hiu h.symm)] at ha
      have hb:=zhC (r:=r) (c:=c) (g:=fun a b=>if a=i∧k≤b∧b < k+j then zmb (g i b) f (g u b) else g a b) (x:=(r:Int)) (show r≤1000 by omega) (show c≤1000 by omega) hi hj'
      rw[if_neg (by omega)] at hb
      simp only[zbb,decide_eq_true (show ((k+j:Nat):Int) < (c:Int) by omega),cond_true,ha,Option.bind_some,zqI]
      by_cases h0:g u (k+j)=some 0∨g u (k+j)=none
      · rw [decide_eq_true h0]
        have e2:zmb (g i (k+j)) f (g u (k+j))=g i (k+j):=by unfold zmb; rw[if_pos h0]
        have s2:grid r c (fun a b=>if a=i∧k≤b∧b < k+(j+1) then zmb (g i b) f (g u b) else g a b)=grid r c (fun a b=>if a=i∧k≤b∧b < k+j then zmb (g i b) f (g u b) else g a b):=zaK fun a b _ _=>by
          show (if a=i∧k≤b∧b < k+(j+1) then zmb (g i b) f (g u b) else g a b)=_
          rw[s0,e2]
          by_cases h1:a=i∧b=k+j
          · rw[if_pos h1,h1.1,h1.2,if_neg (by omega)]
          · rw[if_neg h1]
        simp only[Bool.not_true,cond_false,zas hj' (show c≤1048576 by omega)]
        rw[show k+j+1=k+(j+1) from rfl,s2]
      · rw[decide_eq_false h0]
        have e2:zmb (g i (k+j)) f (g u (k+j))=zoX (g i (k+j)) (zl6 f (g u (k+j))):=by unfold zmb; rw[if_neg h0]
        rw[e2] at s1
        simp only[Bool.not_false,cond_true,hb,ha,Option.bind_some]
        show ((zes (ro f) (ro (g u (k+j)))).bind _)=_
        simp only[zAo hf (hg u (k+j) hu hj'),Option.bind_some,zAm (hg i (k+j) hi hj') (zvO (o:=f) (p:=g u (k+j))),e1,ziF hi hj',Int.toNat_natCast,s1,zas hj' (show c≤1048576 by omega)]
        rfl) (by simp only[zbb,decide_eq_false (show ¬ (((k+(c - k):Nat):Int) < (c:Int)) by omega),cond_false])
  refine Eq.trans ?_ (key.trans ?_)
  · rw[zaK (r:=r) (c:=c) (g:=fun a b=>if a=i∧k≤b∧b < k+0 then zmb (g i b) f (g u b) else g a b) (h:=g) (fun a b _ _=>if_neg (by omega))]; rfl
  · rw [zaK (r:=r) (c:=c) (g:=fun a b=>if a=i∧k≤b∧b < k+(c - k) then zmb (g i b) f (g u b) else g a b) (h:=fun a b=>if a=i∧k≤b then zmb (g i b) f (g u b) else g a b) (fun a b _ hb=>by
      by_cases h1:a=i∧k≤b
      · rw[if_pos h1,if_pos ⟨h1.1,h1.2,by omega⟩]
      · rw[if_neg h1,if_neg (fun h=>h1 ⟨h.1,h.2.1⟩)])]
def zkj (g:Nat→Nat→Option Rat) (u k:Nat):Nat→Nat→Option Rat:=fun a b=>if a≠u∧¬ (g a k=some 0∨g a k=none)∧k≤b then zmb (g a b) (g a k) (g u b) else g a b
theorem zFn {a b:Nat} (h:Oks (g a b)):Oks (zkj g u k a b):=by
  unfold zkj zmb
  split
  · split
    · exact h
    · exact zvL
  · exact h
theorem sel_clear (hr:r≤24) (hc:c≤200) (hg:∀ i k,i < r→k < c→Oks (g i k)) (hu:u < r) (hk:k < c) :
    zcc ⟨r,c,(grid r c g).map ro⟩ u k=some ((grid r c (zkj g u k)).map ro):=by
  unfold zcc zfn
  have key := za0 zbc (fun i=>((u:Int),(k:Int),(i:Int),(grid r c (fun a b=>if a < i then zkj g u k a b else g a b)).map ro,(r:Int),(c:Int),())) r
    ((grid r c (fun a b=>if a < r then zkj g u k a b else g a b)).map ro,()) (fun i hi=>by
      have ha:=zhC (r:=r) (c:=c) (g:=fun a b=>if a < i then zkj g u k a b else g a b) (x:=(r:Int)) (show r≤1000 by omega) (show c≤1000 by omega) hi hk
      rw[if_neg (Nat.lt_irrefl i)] at ha
      simp only[zbc,dlt hi,cond_true,ha,Option.bind_some]
      have same:(∀ b,zkj g u k i b=g i b)→grid r c (fun a b=>if a < i+1 then zkj g u k a b else g a b)=grid r c (fun a b=>if a < i then zkj g u k a b else g a b):=fun h=>zaK fun a b _ _=>by
        by_cases h1:a < i
        · rw[if_pos h1,if_pos (by omega)]
        · rw[if_neg h1]
          by_cases h2:a=i
          · subst h2; rw[if_pos (by omega),h]
          · rw[if_neg (by omega)]
      by_cases hiu:i=u
      · subst hiu
        rw[same (fun b=>by unfold zkj; rw[if_neg (fun h=>h.1 rfl)])]
        simp only[beq_self_eq_true,cond_true,zas hi (show r≤1048576 by omega)]
      · have hb:((i:Int)==(u:Int))=false:=by
          rw[beq_eq_false_iff_ne]; omega
        simp only[hb,cond_false,zqI]
        by_cases h0:g i k=some 0∨g i k=none
        · rw[decide_eq_true h0,Option.bind_some,cond_true,same (fun b=>by unfold zkj; rw[if_neg (fun h=>h.2.1 h0)])]
          simp only[zas hi (show r≤1048576 by omega)]
        · rw [decide_eq_false h0,Option.bind_some,cond_false]
          have h1:=sel_clear1 (k:=k) (g:=fun a b=>if a < i then zkj g u k a b else g a b) hr hc (fun a b h1 h2=>by
            show Oks (if a < i then zkj g u k a b else g a b)
            split
            · exact zFn (hg a b h1 h2)
            · exact hg a b h1 h2) hi hu hiu (hg i k hi hk)
          rw[h1,Option.bind_some]
          simp only[zas hi (show r≤1048576 by omega)]
          rw[zaK (r:=r) (c:=c) (h:=fun a b=>if a < i+1 then zkj g u k a b else g a b) (fun a b _ _=>?_)]
          by_cases h2:a=i
          · subst h2
            have hsu:(if u < a then zkj g u k u b else g u b)=g u b:=by
              split
              · unfold zkj; rw[if_neg (fun h=>h.1 rfl)]
              · rfl
            rw[if_pos (show a < a+1 by omega),if_neg (Nat.lt_irrefl a),hsu]
            unfold zkj
            by_cases h3:k≤b
            · rw[if_pos ⟨rfl,h3⟩,if_pos ⟨hiu,h0,h3⟩]
            · rw[if_neg (fun h=>h3 h.2),if_neg (fun h=>h3 h.2.2)]
          · rw[if_neg (fun h=>h2 h.1)]
            have:(a < i+1)=(a < i):=by rw[eq_iff_iff]; omega
            simp only[this]) (by simp[zbc])
  rw[zaK (r:=r) (c:=c) (g:=fun a b=>if a < r then zkj g u k a b else g a b) (h:=zkj g u k) (fun a b h _=>if_pos h)] at key
  refine (congrArg (fun x=>Option.bind x _) (Eq.trans ?_ key)).trans ?_
  · rw[zaK (r:=r) (c:=c) (g:=fun a b=>if a < 0 then zkj g u k a b else g a b) (h:=g) (fun a b _ _=>if_neg (by omega))]; rfl
  · rfl
end
/-! ### Rounds -/
structure ES where
  g:Nat→Nat→Option Rat
  pv:List Int
  fs:List (Option Rat)
def znU (r c:Nat) (g:Nat→Nat→Option Rat):Bool:=(grid r c g).all Option.isSome
theorem zcm {r c:Nat} {g:Nat→Nat→Option Rat}:znU r c g=true↔∀ i k,i < r→k < c→(g i k).isSome=true:=by
  unfold znU
  rw[List.all_eq_true]
  constructor
  · intro h i k hi hk; exact h _ (List.mem_of_getElem? (zpu g hi hk))
  · intro h o ho
    obtain ⟨i,k,hi,hk,rfl⟩:=zps ho
    exact h i k hi hk
def zhP (r c k:Nat) (s:ES):Option ES :=
  if s.pv.length < r then
    let p:=zhM s.g k (r - s.pv.length) s.pv.length
    if p=r then some s else
      let g1:=swp s.g p s.pv.length
      let g2:=dvd g1 s.pv.length k
      let g3:=clr g2 s.pv.length k
      cond (znU r c g2 && znU r c g3) (some ⟨g3,s.pv++[(k:Int)],(s.fs++if p≠s.pv.length then [some (-1)] else [])++[g1 s.pv.length k]⟩) none
  else some s
def elim (r c:Nat) (g:Nat→Nat→Option Rat):Nat→Option ES
  | 0=>some ⟨g,[],[]⟩
  | k+1=>(elim r c g k).bind (zhP r c k)
structure EInv (r c k:Nat) (s:ES):Prop where
  good:zdD r c s.g
  used:s.pv.length≤r
  few:s.pv.length≤k
  zero:∀ i j,s.pv.length≤i→i < r→j < k→j < c→s.g i j=some 0
  fsok:∀ o∈s.fs,Oks o
  fsall:∀ o∈s.fs,o.isSome=true
  fslen:s.fs.length≤2 * k
theorem zkz {y:Rat} (hy:y≠0):divO (some 0) (some y)=some 0:=by
  show (if y=0 then none else chk (0 / y))=_
  rw[if_neg hy,Rat.div_def,Rat.zero_mul,zgt zkv]
theorem zry {y:Rat} (hy:y≠0):divO (some y) (some y)=some 1:=by
  show (if y=0 then none else chk (y / y))=_
  rw[if_neg hy,Rat.div_def,Rat.mul_inv_cancel _ hy,zgt zLO]
theorem zvR {o:Option Rat} (h:Oks o):zl6 o (some 1)=o:=by
  cases o with
  | none=>rfl
  | some q =>
    show chk (q * 1)=some q
    rw[Rat.mul_one,zgt (h q rfl)]
theorem zqq {x:Rat}:zoX (some x) (some x)=some 0:=by
  show chk (x + -x)=some 0
  rw[← Rat.sub_eq_add_neg,Rat.sub_self,zgt zkv]
theorem zmw {o:Option Rat} (h:Oks o):zoX o (some 0)=o:=by
  cases o with
  | none=>rfl
  | some q =>
    show chk (q + -0)=some q
    rw[show (-0:Rat)=0 from rfl,Rat.add_zero,zgt (h q rfl)]
section
variable {r c:Nat} {g:Nat→Nat→Option Rat} {k u p:Nat}
theorem zma (hg:zdD r c g) (hp:p < r) (hu:u < r):zdD r c (swp g p u):=fun i k hi hk=>by
  unfold swp
  split
  · exact hg u k hu hk
  · split
    · exact hg p k hp hk
    · exact hg i k hi hk
theorem zl9 (hu:u < r) (hp:p < r) (hup:u≤p) (hz:∀ i j,u≤i→i < r→j < k→j < c→g i j=some 0):∀ i j,u≤i→i < r→j < k→j < c→swp g p u i j=some 0:=fun i j h1 h2 h3 h4=>by
  unfold swp
  split
  · exact hz u j (Nat.le_refl u) hu h3 h4
  · split
    · exact hz p j hup hp h3 h4
    · exact hz i j h1 h2 h3 h4
theorem ztz (hg:zdD r c g) {a b:Nat} (ha:a < r) (hb:b < c):Oks (dvd g u k a b):=by
  unfold dvd
  split
  · exact zFo
  · exact (hg a b ha hb).1
theorem zBj (h:∀ i k,i < r→k < c→Oks (g i k)) {a b:Nat} (ha:a < r) (hb:b < c):Oks (clr g u k a b):=by
  unfold clr
  split
  · rename_i e; subst e; exact h _ b ha hb
  · split
    · exact h a b ha hb
    · exact zvL
theorem zGg (hk:k < c) (hz:∀ j,j < k→g u j=some 0) {y:Rat} (hy:g u k=some y) (h0:y≠0) (a b:Nat) :
    (if a=u∧k≤b then divO (g u b) (g u k) else g a b)=dvd g u k a b:=by
  unfold dvd
  by_cases h1:a=u
  · subst h1
    rw[if_pos rfl]
    by_cases h2:k≤b
    · rw[if_pos ⟨rfl,h2⟩]
    · rw[if_neg (fun h=>h2 h.2),hz b (by omega),hy,zkz h0]
  · rw[if_neg (fun h=>h1 h.1),if_neg h1]
theorem zFc (hg:∀ i j,i < r→j < c→Oks (g i j)) (hall:∀ i j,i < r→j < c→(g i j).isSome=true) (hu:u < r) (hk:k < c) (hz:∀ j,j < k→g u j=some 0) {a b:Nat} (ha:a < r) (hb:b < c) :
    zkj g u k a b=clr g u k a b:=by
  unfold zkj clr
  by_cases h1:a=u
  · rw[if_neg (fun h=>h.1 h1),if_pos h1,h1]
  · rw [if_neg h1]
    have hn:g a k≠none:=fun h=>by have:=hall a k ha hk; rw[h] at this; cases this
    by_cases h2:g a k=some 0
    · rw[if_neg (fun h=>h.2.1 (.inl h2)),if_pos h2]
    · rw [if_neg h2]
      have h3:¬ (g a k=some 0∨g a k=none):=by rintro (h | h); exact h2 h; exact hn h
      have hz0:g u b=some 0→zoX (g a b) (zl6 (g a k) (g u b))=g a b:=fun e=>by
        obtain ⟨x,hx⟩:=Option.ne_none_iff_exists'.1 hn
        rw[e,hx,zj1,zmw (hg a b ha hb)]
      by_cases h4:k≤b
      · rw[if_pos ⟨h1,h3,h4⟩]
        unfold zmb
        have hnu:g u b≠none:=fun h=>by have:=hall u b hu hb; rw[h] at this; cases this
        by_cases h5:g u b=some 0
        · rw[if_pos (.inl h5),hz0 h5]
        · rw[if_neg (by rintro (h | h); exact h5 h; exact hnu h)]
      · rw[if_neg (fun h=>h4 h.2.2),hz0 (hz b (by omega))]
theorem step_inv {s s':ES} (h:EInv r c k s) (hk:k < c) (e:zhP r c k s=some s'):EInv r c (k+1) s':=by
  unfold zhP at e
  split at e
  · rename_i hur
    obtain ⟨pl,ph⟩:=zkR s.g k (r - s.pv.length) s.pv.length
    generalize hpe:zhM s.g k (r - s.pv.length) s.pv.length=p at *
    simp only at e
    split at e
    · rename_i hpr
      injection e with e; subst e
      refine ⟨h.good,h.used,by have:=h.few; omega,fun i j h1 h2 h3 h4=>?_,h.fsok,h.fsall,by have:=h.fslen; omega⟩
      by_cases hj:j=k
      · subst hj; exact zmQ s.g j _ _ i h1 (by rw[hpe]; omega)
      · exact h.zero i j h1 h2 (by omega) h4
    · rename_i hpr
      have hp:p < r:=by omega
      have hne:s.g p k≠some 0:=by rw[← hpe]; exact zmR s.g k _ _ (by rw[hpe]; omega)
      have g1:=zma (u:=s.pv.length) h.good hp hur
      have z1:=zl9 (c:=c) hur hp pl h.zero
      have e1:swp s.g p s.pv.length s.pv.length k=s.g p k:=by
        unfold swp
        split
        · rename_i e; rw[e]
        · rw[if_pos rfl]
      generalize swp s.g p s.pv.length=gg at *
      generalize hu:s.pv.length=u at *
      cases hall:(znU r c (dvd gg u k) && znU r c (clr (dvd gg u k) u k)) with
      | false=>rw[hall] at e; cases e
      | true =>
        rw[hall] at e
        injection e with e; subst e
        rw[Bool.and_eq_true] at hall
        have a2:=zcm.1 hall.1
        have a3:=zcm.1 hall.2
        have o2:∀ i j,i < r→j < c→Oks (dvd gg u k i j):=fun i j hi hj=>ztz g1 hi hj
        obtain ⟨y,hy⟩:=Option.isSome_iff_exists.1 (g1 u k hur hk).2
        have hy0:y≠0:=fun e0=>hne (by rw[← e1,hy,e0])
        have hzu:∀ j,j < k→dvd gg u k u j=some 0:=fun j hj=>by
          unfold dvd; rw[if_pos rfl,z1 u j (Nat.le_refl u) hur hj (by omega),hy,zkz hy0]
        have hone:dvd gg u k u k=some 1:=by unfold dvd; rw[if_pos rfl,hy,zry hy0]
        refine ⟨fun i j hi hj=>⟨zBj o2 hi hj,a3 i j hi hj⟩,?_,?_,fun i j h1 h2 h3 h4=>?_,fun o ho=>?_,fun o ho=>?_,?_⟩
        · simp[hu]; omega
        · have:=h.few; simp[hu] at this ⊢; omega
        · simp only[List.length_append,List.length_singleton,hu] at h1
          show clr (dvd gg u k) u k i j=some 0
          have hd:dvd gg u k i j=gg i j:=by unfold dvd; rw[if_neg (by omega)]
          have hdk:dvd gg u k i k=gg i k:=by unfold dvd; rw[if_neg (by omega)]
          unfold clr
          rw[if_neg (by omega),hd,hdk]
          obtain ⟨x,hx⟩:=Option.isSome_iff_exists.1 (g1 i k h2 hk).2
          by_cases hj:j=k
          · subst hj
            split
            · assumption
            · rw[hone,hx,zvR ((g1 i j h2 hk).1 |> fun h=>by rw[hx] at h; exact h),zqq]
          · rw[z1 i j (by omega) h2 (by omega) h4,hzu j (by omega)]
            split
            · rfl
            · rw[hx,zj1]; exact zmw zkv.ok
        · rcases List.mem_append.1 ho with ho | ho
          · rcases List.mem_append.1 ho with ho | ho
            · exact h.fsok o ho
            · split at ho
              · rw[List.mem_singleton.1 ho]
                have:=zuJ (n := -1) (by omega) (by omega)
                exact (show Fit (-1:Rat) by simpa using this).ok
              · cases ho
          · rw[List.mem_singleton.1 ho]; exact (g1 u k hur hk).1
        · rcases List.mem_append.1 ho with ho | ho
          · rcases List.mem_append.1 ho with ho | ho
            · exact h.fsall o ho
            · split at ho
              · rw[List.mem_singleton.1 ho]; rfl
              · cases ho
          · rw[List.mem_singleton.1 ho]; exact (g1 u k hur hk).2
        · have:=h.fslen
          have:(if p≠u then [some (-1:Rat)] else []).length≤1:=by split<;>simp
          simp only[List.length_append,List.length_singleton]; omega
  · rename_i hur
    injection e with e; subst e
    refine ⟨h.good,h.used,by have:=h.few; omega,fun i j h1 h2 h3 h4=>by omega,h.fsok,h.fsall,by have:=h.fslen; omega⟩
theorem ze5 (hg:zdD r c g):∀ {k:Nat} {s:ES},k≤c→elim r c g k=some s→EInv r c k s:=by
  intro k
  induction k with
  | zero =>
    intro s _ e
    injection e with e; subst e
    exact ⟨hg,Nat.zero_le _,Nat.le_refl _,fun i j _ _ h _=>by omega,fun o ho=>(by cases ho),fun o ho=>(by cases ho),Nat.le_refl _⟩
  | succ k ih =>
    intro s hk e
    unfold elim at e
    cases h0:elim r c g k with
    | none=>rw[h0] at e; cases e
    | some s0 =>
      rw[h0] at e
      exact step_inv (ih (by omega) h0) (by omega) e
end
end Go.Di
namespace Go.Di
section
variable {r c:Nat} {g:Nat→Nat→Option Rat} {k:Nat}
def sst (r c k:Nat) (s:ES):Int × Int × Int × (List Rt) × (List Int) × (List Rt) × Unit:=((k:Int),(r:Int),(c:Int),(grid r c s.g).map ro,s.pv,s.fs.map ro,())
theorem spec_step {s:ES} (hr:r≤24) (hc:c≤200) (h:EInv r c k s) (hk:k < c) (hur:s.pv.length < r) :
    (∃ s',zhP r c k s=some s'∧zay (sst r c k s)=some (.inl (sst r c (k+1) s'))) ∨
    (zhP r c k s=none∧∃ lo pv fs,lo.length=r * c∧lo.all Option.isSome=false∧zay (sst r c k s)=some (.inr (.inl (List.map ro lo,pv,fs,())))):=by
  unfold zhP
  rw[if_pos hur]
  obtain ⟨pl,ph⟩:=zkR s.g k (r - s.pv.length) s.pv.length
  have hfind:=sel_find (u:=s.pv.length) hr hc h.good hk (Nat.le_of_lt hur) s.pv.length s.pv (s.fs.map ro)
  have hne:zhM s.g k (r - s.pv.length) s.pv.length < s.pv.length+(r - s.pv.length)→s.g (zhM s.g k (r - s.pv.length) s.pv.length) k≠some 0:=zmR s.g k _ _
  generalize zhM s.g k (r - s.pv.length) s.pv.length=p at *
  simp only
  have hdec:decide ((s.pv.length:Int) < (r:Int))=true:=decide_eq_true (by omega)
  have fl1:zaj (Nat.ble ((s.fs.map ro).length+1) zan)=some ():=zmF (by rw[List.length_map]; have:=h.fslen; omega)
  have fl2:zaj (Nat.ble ((s.fs.map ro++[ro (some (-1))]).length+1) zan)=some ():=zmF (by rw[List.length_append,List.length_map]; have:=h.fslen; simp; omega)
  have pl1:zaj (Nat.ble (s.pv.length+1) zan)=some ():=zmF (by omega)
  by_cases hpr:p=r
  · subst hpr
    left
    rw[if_pos rfl]
    refine ⟨s,rfl,?_⟩
    unfold sst
    simp only[zay,dlt hk,cond_true,hdec,hfind,Option.bind_some,beq_self_eq_true,zas hk (show c≤1048576 by omega)]
  · rw [if_neg hpr]
    have hp:p < r:=by omega
    have hne:=hne (by omega)
    have g1:=zma (u:=s.pv.length) h.good hp hur
    have z1:=zl9 (c:=c) hur hp pl h.zero
    have e1:swp s.g p s.pv.length s.pv.length k=s.g p k:=by
      unfold swp
      split
      · rename_i e; rw[e]
      · rw[if_pos rfl]
    have hself:p=s.pv.length→swp s.g p s.pv.length=s.g:=fun e=>by
      subst e; funext a b; unfold swp; split
      · rename_i h; rw[h]
      · rfl
    have hsw:=sel_swap (g:=s.g) (r:=r) (c:=c) hr hc hp hur (k:Int) s.pv (s.fs.map ro++[ro (some (-1))])
    generalize swp s.g p s.pv.length=gg at *
    obtain ⟨y,hy⟩:=Option.isSome_iff_exists.1 (g1 s.pv.length k hur hk).2
    have hy0:y≠0:=fun e0=>hne (by rw[← e1,hy,e0])
    have hbeq:((p:Int)==(r:Int))=false:=by rw[beq_eq_false_iff_ne]; omega
    have hat:=zhC (r:=r) (c:=c) (g:=gg) (x:=(r:Int)) (show r≤1000 by omega) (show c≤1000 by omega) hur hk
    have hdivl:∀ fs:List Rt,L_spec_l07Reduce_m_3 k s.pv.length k r c ((grid r c gg).map ro) (ro (gg s.pv.length k)).neg (ro (gg s.pv.length k)).mag (ro (gg s.pv.length k)).den fs s.pv=some ((k:Int),(s.pv.length:Int),(r:Int),(c:Int),(grid r c (dvd gg s.pv.length k)).map ro,fs,s.pv,()):=fun fs=>by
      rw[sel_div hr hc g1 hk hur]
      rw[zaK (r:=r) (c:=c) (h:=dvd gg s.pv.length k) (fun a b _ _=>zGg hk (fun j hj=>z1 _ j (Nat.le_refl _) hur hj (by omega)) hy hy0 a b)]
    have o2:∀ i j,i < r→j < c→Oks (dvd gg s.pv.length k i j):=fun i j hi hj=>ztz g1 hi hj
    have hcl:=sel_clear (g:=dvd gg s.pv.length k) hr hc o2 hur hk
    have hfine:=zmy (l:=grid r c (zkj (dvd gg s.pv.length k) s.pv.length k)) (by rw[zaU]; have:r * c≤24 * 200:=Nat.mul_le_mul hr hc; omega)
    -- what is put at the end of the factors
    have hS:zay (sst r c k s)=cond (!(grid r c (zkj (dvd gg s.pv.length k) s.pv.length k)).all Option.isSome)
        (some (.inr (.inl ((grid r c (zkj (dvd gg s.pv.length k) s.pv.length k)).map ro,s.pv++[(k:Int)],((s.fs++if p≠s.pv.length then [some (-1)] else [])++[gg s.pv.length k]).map ro,()))))
        (some (.inl (((k+1:Nat):Int),(r:Int),(c:Int),(grid r c (zkj (dvd gg s.pv.length k) s.pv.length k)).map ro,s.pv++[(k:Int)],((s.fs++if p≠s.pv.length then [some (-1)] else [])++[gg s.pv.length k]).map ro,()))):=by
      by_cases hpu:p=s.pv.length
      · have hbne:((p:Int) != (s.pv.length:Int))=false:=by rw[hpu]; simp
        rw[if_neg (fun h=>h hpu),List.append_nil,List.map_append,List.map_singleton]
        have hg:=hself hpu
        unfold sst
        simp only[zay,dlt hk,cond_true,hdec,hfind,Option.bind_some,hbeq,cond_false,hbne]
        rw[← hg]
        simp only[hat,Option.bind_some,fl1,hdivl,hcl,pl1,hfine,zas hk (show c≤1048576 by omega)]
      · have hbne:((p:Int) != (s.pv.length:Int))=true:=by
          rw[bne_iff_ne]; omega
        have hm1:zcU (-1)=some (ro (some (-1))):=by
          have:=ztf (n := -1) (by omega) (by omega)
          rw[this]; simp
        rw[if_pos hpu,List.map_append,List.map_append,List.map_singleton,List.map_singleton]
        unfold sst
        simp only[zay,dlt hk,cond_true,hdec,hfind,Option.bind_some,hbeq,cond_false,hbne,hm1,fl1,hsw,hat,fl2,hdivl,hcl,pl1,hfine,zas hk (show c≤1048576 by omega)]
    cases h2:znU r c (dvd gg s.pv.length k) with
    | false =>
      right
      refine ⟨by rw[Bool.false_and]; rfl,?_⟩
      have hbad:(grid r c (zkj (dvd gg s.pv.length k) s.pv.length k)).all Option.isSome=false:=by
        rw[← Bool.not_eq_true]
        intro ha
        have ha:=zcm.1 ha
        rw[← Bool.not_eq_true] at h2
        apply h2
        rw[zcm]
        intro i j hi hj
        by_cases hiu:i=s.pv.length
        · have:=ha i j hi hj
          unfold zkj at this
          rw[if_neg (fun h=>h.1 hiu)] at this
          exact this
        · unfold dvd; rw[if_neg hiu]; exact (g1 i j hi hj).2
      rw[hbad] at hS
      exact ⟨_,_,_,zaU ..,hbad,hS⟩
    | true =>
      have a2:=zcm.1 h2
      have hzu:∀ j,j < k→dvd gg s.pv.length k s.pv.length j=some 0:=fun j hj=>by
        unfold dvd; rw[if_pos rfl,z1 _ j (Nat.le_refl _) hur hj (by omega),hy,zkz hy0]
      have hcc:grid r c (zkj (dvd gg s.pv.length k) s.pv.length k)=grid r c (clr (dvd gg s.pv.length k) s.pv.length k):=zaK fun a b ha hb=>zFc o2 a2 hur hk hzu ha hb
      rw[hcc] at hS
      rw[Bool.true_and]
      cases h3:znU r c (clr (dvd gg s.pv.length k) s.pv.length k) with
      | false =>
        right
        have h3':(grid r c (clr (dvd gg s.pv.length k) s.pv.length k)).all Option.isSome=false:=h3
        rw[h3'] at hS
        exact ⟨rfl,_,_,_,zaU ..,h3',hS⟩
      | true =>
        left
        have h3':(grid r c (clr (dvd gg s.pv.length k) s.pv.length k)).all Option.isSome=true:=h3
        rw[h3'] at hS
        exact ⟨_,rfl,hS⟩
theorem zkx {k0:Nat} {s:ES} (h:elim r c g k0=some s) (hu:¬ s.pv.length < r):∀ j,elim r c g (k0+j)=some s
  | 0=>h
  | j+1=>by
    show (elim r c g (k0+j)).bind _=_
    rw[zkx h hu j]
    show zhP r c (k0+j) s=some s
    unfold zhP; rw[if_neg hu]
theorem elim_none {k0:Nat} (h:elim r c g k0=none):∀ j,elim r c g (k0+j)=none
  | 0=>h
  | j+1=>by
    show (elim r c g (k0+j)).bind _=_
    rw[elim_none h j]; rfl
theorem zAq (hr:r≤24) (hc:c≤200) (hg:zdD r c g):∀ n k s,k+n=c→elim r c g k=some s →
    (∃ f,elim r c g c=some f∧whileO zay (sst r c k s)=some (.inr ((grid r c f.g).map ro,f.pv,f.fs.map ro,()))) ∨
    (elim r c g c=none∧∃ lo pv fs,lo.length=r * c∧lo.all Option.isSome=false∧whileO zay (sst r c k s)=some (.inl (List.map ro lo,pv,fs,()))):=by
  intro n
  induction n with
  | zero =>
    intro k s hk e
    have:k=c:=by omega
    subst this
    left
    refine ⟨s,e,zaA ?_⟩
    unfold sst
    simp[zay]
  | succ n ih =>
    intro k s hk e
    have hkc:k < c:=by omega
    have hi:=ze5 hg (Nat.le_of_lt hkc) e
    by_cases hu:s.pv.length < r
    · rcases spec_step hr hc hi hkc hu with ⟨s',e1,e2⟩ | ⟨e1,lo,pv,fs,l1,l2,e2⟩
      · rw[zbm e2]
        exact ih (k+1) s' (by omega) (by unfold elim; rw[e]; exact e1)
      · right
        refine ⟨?_,lo,pv,fs,l1,l2,zaA e2⟩
        have:elim r c g (k+1)=none:=by unfold elim; rw[e]; exact e1
        have:=elim_none this n
        rw[show k+1+n=c by omega] at this
        exact this
    · left
      have:=zkx e hu (n+1)
      rw[hk] at this
      refine ⟨s,this,zaA ?_⟩
      unfold sst
      simp only[zay,dlt hkc,cond_true,decide_eq_false (show ¬ (s.pv.length:Int) < (r:Int) by omega),cond_false]
theorem zte (hr:r≤24) (hc:c≤200) (hg:zdD r c g) :
    (∃ f,elim r c g c=some f∧zbL ⟨r,c,(grid r c g).map ro⟩=some (f.pv,f.fs.map ro,(grid r c f.g).map ro)) ∨
    (elim r c g c=none∧∃ lo pv fs,lo.length=r * c∧lo.all Option.isSome=false∧zbL ⟨r,c,(grid r c g).map ro⟩=some (pv,fs,List.map ro lo)):=by
  rcases zAq hr hc hg c 0 ⟨g,[],[]⟩ (by omega) rfl with ⟨f,e1,e2⟩ | ⟨e1,lo,pv,fs,l1,l2,e2⟩
  · left
    refine ⟨f,e1,?_⟩
    unfold zbL zdX
    exact congrArg (fun x=>Option.bind x _) e2
  · right
    refine ⟨e1,lo,pv,fs,l1,l2,?_⟩
    unfold zbL zdX
    exact congrArg (fun x=>Option.bind x _) e2
end
end Go.Di
namespace Go.Di
theorem zs8 (o:Option Rat):zdN (ro o)=some (decide (o=some 0∨o=none)):=zqI o
theorem zqz {r c:Nat} {xs:List Rt} (hr:r≤24) (hc:c≤200) (hl:xs.length=r * c) {i:Nat} (hi:i < r) (x:Int) :
    zaI ⟨x,c,xs⟩ i=some ((i * c,c),xs):=by
  have h1:i * c≤24 * 200:=Nat.mul_le_mul (by omega) hc
  have h2:(i+1) * c≤24 * 200:=Nat.mul_le_mul (by omega) hc
  have h3:(i+1) * c≤r * c:=Nat.mul_le_mul_right c hi
  have e1:IntKind.i64.wrap ((i:Int) * (c:Int))=((i * c:Nat):Int):=by
    rw[show ((i:Int) * (c:Int))=((i * c:Nat):Int) by simp]; exact wrap_i64 (by omega) (by omega)
  have e0:IntKind.i64.wrap ((i:Int)+1)=((i+1:Nat):Int):=by
    rw[wrap_i64 (by omega) (by omega)]; omega
  have e2:IntKind.i64.wrap (((i+1:Nat):Int) * (c:Int))=(((i+1) * c:Nat):Int):=by
    rw[show (((i+1:Nat):Int) * (c:Int))=(((i+1) * c:Nat):Int) by simp]; exact wrap_i64 (by omega) (by omega)
  have h4:(i+1) * c=i * c+c:=by rw[Nat.add_mul,Nat.one_mul]
  unfold zaI
  simp only[e0,e1,e2,Int.toNat_natCast]
  have hin:inside xs.length (((i * c:Nat):Int),(((i+1) * c:Nat):Int))=true:=by
    unfold inside
    simp only[Bool.and_eq_true,decide_eq_true_iff]
    omega
  rw[hin,show (i+1) * c - i * c=c by omega]; rfl
theorem zLJ {α:Type} {xs:List α} {lo len k:Nat} (hk:k < len) (h:lo+len≤xs.length):idx (cut xs lo (lo+len)) (k:Int)=xs[lo+k]? := by
  rw[zj4]; unfold cut
  rw[List.getElem?_drop,List.getElem?_take_of_lt (by omega)]
theorem zgi {r c:Nat} {g:Nat→Nat→Option Rat} {i k:Nat} (hi:i < r) (hk:k < c):idx (cut ((grid r c g).map ro) (i * c) (i * c+c)) (k:Int)=some (ro (g i k)):=by
  rw[zLJ hk (by rw[List.length_map,zaU,← Nat.succ_mul]; exact Nat.mul_le_mul_right c hi),zeh hi hk]
theorem zA2 {r c:Nat} {g:Nat→Nat→Option Rat} {i:Nat} (hi:i < r):cut ((grid r c g).map ro) (i * c) (i * c+c)=((List.range c).map (g i)).map ro:=by
  apply List.ext_getElem?
  intro k
  by_cases hk:k < c
  · have h1:=zgi (g:=g) hi hk
    rw[zj4] at h1
    rw[h1]
    simp[hk]
  · rw[List.getElem?_eq_none,List.getElem?_eq_none]
    · simp; omega
    · unfold cut; simp; omega
theorem zA3 {r c:Nat} {g:Nat→Nat→Option Rat} {i:Nat} (hi:i < r) (hc:c≤200):za8 (cut ((grid r c g).map ro) (i * c) (i * c+c))=some (((List.range c).map (g i)).all Option.isSome):=by
  rw[zA2 hi,zpp (by simp; omega)]
section
variable {r c:Nat} {g:Nat→Nat→Option Rat} {k u:Nat}
theorem iel_find (hr:r≤24) (hc:c≤200) (hg:zdD r c g) (hk:k < c) (hu:u≤r) (n v v1 v5 v6:Int) (v2 v4 fs:List Rt) (v3 pv:List Int) :
    zeN n k u v v1 v2 v3 v4 v5 v6 r c ((grid r c g).map ro) pv fs=some (n,(k:Int),((zhM g k (r - u) u:Nat):Int),v,v1,v2,v3,v4,v5,v6,(r:Int),(c:Int),(grid r c g).map ro,pv,fs,()):=by
  unfold zeN
  have key : ∀ s i,i+s=r→whileO zb9 (n,(k:Int),(i:Int),v,v1,v2,v3,v4,v5,v6,(r:Int),(c:Int),(grid r c g).map ro,pv,fs,())=some (n,(k:Int),((zhM g k s i:Nat):Int),v,v1,v2,v3,v4,v5,v6,(r:Int),(c:Int),(grid r c g).map ro,pv,fs,()):=by
    intro s
    induction s with
    | zero =>
      intro i hi
      apply zaA
      simp[zb9,zhM,show i=r by omega]
    | succ s ih =>
      intro i hi
      have hir:i < r:=by omega
      by_cases h0:g i k=some 0
      · rw [zbm (y:=(n,(k:Int),((i+1:Nat):Int),v,v1,v2,v3,v4,v5,v6,(r:Int),(c:Int),(grid r c g).map ro,pv,fs,()))]
        · rw[ih (i+1) (by omega),zhM,if_pos h0]
        · simp only[zb9,dlt hir,cond_true,zxT (show r≤1000 by omega) (show c≤1000 by omega) hir hk,Option.bind_some,zs8,h0,zas hir (show r≤1048576 by omega)]
          simp
      · apply zaA
        have hsm:=(hg i k hir hk).2
        have hn:¬ (g i k=some 0∨g i k=none):=by
          rintro (h | h)
          · exact h0 h
          · rw[h] at hsm; cases hsm
        simp only[zb9,dlt hir,cond_true,zxT (show r≤1000 by omega) (show c≤1000 by omega) hir hk,Option.bind_some,zs8,decide_eq_false hn,cond_false,zhM,if_neg h0]
  exact key (r - u) u (by omega)
theorem iel_swap (hc:c≤200) {p:Nat} (hp:p < r) (hu:u < r) (n k0 v v1 v5 v6:Int) (v2 v4 fs:List Rt) (v3 pv:List Int) :
    L_impl_reduce_2 n k0 (p * c) c (u * c) c c 0 v v1 v2 v3 v4 v5 v6 r c ((grid r c g).map ro) fs pv =
      some (n,k0,v,v1,v2,v3,v4,v5,v6,(r:Int),(c:Int),(grid r c (swp g p u)).map ro,fs,pv,()):=by
  unfold L_impl_reduce_2
  have key := za0 zcL (fun j=>(n,k0,p * c,c,u * c,c,(c:Int),(j:Int),v,v1,v2,v3,v4,v5,v6,(r:Int),(c:Int),(grid r c (fun a b=>if b < j then swp g p u a b else g a b)).map ro,fs,pv,())) c
    (n, k0, v,v1,v2,v3,v4,v5,v6,(r:Int),(c:Int),(grid r c (fun a b=>if b < c then swp g p u a b else g a b)).map ro,fs,pv,()) (fun j hj=>by
      have s1:=zgf (r:=r) (c:=c) (g:=fun a b=>if b < j then swp g p u a b else g a b) (h:=fun a b=>if a=p∧b=j then g u j else if b < j then swp g p u a b else g a b) (o:=g u j) hp hj (fun a b _ _=>rfl)
      have s2:=zgf (r:=r) (c:=c) (g:=fun a b=>if a=p∧b=j then g u j else if b < j then swp g p u a b else g a b) (h:=fun a b=>if b < j+1 then swp g p u a b else g a b) (o:=g p j) hu hj (fun a b _ _=>by
        unfold swp
        by_cases hb:b=j
        · subst hb
          by_cases h1:a=u
          · subst h1
            by_cases h2:a=p
            · subst h2; simp
            · simp[h2]
          · by_cases h2:a=p
            · subst h2; simp[h1]
            · simp[h1,h2]
        · have:(b < j+1)=(b < j):=by rw[eq_iff_iff]; omega
          simp[hb,this])
      simp only[zcL,dlt hj,cond_true,zgi hp hj,zgi hu hj,Int.toNat_natCast,zeh hp hj,zeh hu hj,Option.bind_some,Nat.lt_irrefl,if_false,s1,s2,zas hj (show c≤1048576 by omega)]) (by simp[zcL])
  refine Eq.trans ?_ (key.trans ?_)
  · rw[zaK (r:=r) (c:=c) (g:=fun a b=>if b < 0 then swp g p u a b else g a b) (h:=g) (fun a b _ _=>by simp)]; rfl
  · rw[zaK (r:=r) (c:=c) (g:=fun a b=>if b < c then swp g p u a b else g a b) (h:=swp g p u) (fun a b _ hb=>by simp[hb])]
theorem iel_div (hc:c≤200) (hg:zdD r c g) (hk:k < c) (hu:u < r) (n k0 v v1 v5 v6:Int) (v2 v4 fs:List Rt) (v3 pv:List Int) :
    L_impl_reduce_3 n k0 (u * c) c c 0 v v1 v2 v3 v4 v5 v6 r c (ro (g u k)).neg (ro (g u k)).mag (ro (g u k)).den ((grid r c g).map ro) fs pv =
      some (n,k0,u * c,c,v,v1,v2,v3,v4,v5,v6,(r:Int),(c:Int),(grid r c (dvd g u k)).map ro,fs,pv,()):=by
  unfold L_impl_reduce_3
  have key := za0 zcK (fun j=>(n,k0,u * c,c,(c:Int),(j:Int),v,v1,v2,v3,v4,v5,v6,(r:Int),(c:Int),(ro (g u k)).neg,(ro (g u k)).mag,(ro (g u k)).den,(grid r c (fun a b=>if b < j then dvd g u k a b else g a b)).map ro,fs,pv,())) c
    (n, k0,u * c,c,v,v1,v2,v3,v4,v5,v6,(r:Int),(c:Int),(grid r c (fun a b=>if b < c then dvd g u k a b else g a b)).map ro,fs,pv,()) (fun j hj=>by
      have s1:=zgf (r:=r) (c:=c) (g:=fun a b=>if b < j then dvd g u k a b else g a b) (h:=fun a b=>if b < j+1 then dvd g u k a b else g a b) (o:=divO (g u j) (g u k)) hu hj (fun a b _ _=>by
        unfold dvd
        by_cases hb:b=j
        · subst hb
          by_cases h1:a=u
          · subst h1; simp
          · simp[h1]
        · have:(b < j+1)=(b < j):=by rw[eq_iff_iff]; omega
          simp[hb,this])
      have hd:=impl_divO (hg u j hu hj).1 (hg u k hu hk).1
      simp only[zcK,dlt hj,cond_true,zgi hu hj,Int.toNat_natCast,zeh hu hj,Option.bind_some,Nat.lt_irrefl,if_false]
      show ((zfN (ro (g u j)) (ro (g u k))).bind _)=_
      simp only[hd,Option.bind_some,s1,zas hj (show c≤1048576 by omega)]) (by simp[zcK])
  refine Eq.trans ?_ (key.trans ?_)
  · rw[zaK (r:=r) (c:=c) (g:=fun a b=>if b < 0 then dvd g u k a b else g a b) (h:=g) (fun a b _ _=>by simp)]; rfl
  · rw[zaK (r:=r) (c:=c) (g:=fun a b=>if b < c then dvd g u k a b else g a b) (h:=dvd g u k) (fun a b _ hb=>by simp[hb])]
theorem iel_clear1 (hc:c≤200) (hg:∀ i k,i < r→k < c→Oks (g i k)) {i:Nat} (hi:i < r) (hu:u < r) (hiu:i≠u) {f:Option Rat} (hf:Oks f) (n k0 t t1 v v1 v5 v6:Int) (v2 v4 fs:List Rt) (v3 pv:List Int) :
    L_impl_reduce_5 n k0 (u * c) c (i * c) c t t1 c 0 v v1 v2 v3 v4 v5 v6 r c (ro f).neg (ro f).mag (ro f).den ((grid r c g).map ro) fs pv =
      some (n,k0,u * c,c,i * c,c,t,t1,v,v1,v2,v3,v4,v5,v6,(r:Int),(c:Int),(grid r c (fun a b=>if a=i then zoX (g i b) (zl6 f (g u b)) else g a b)).map ro,fs,pv,()):=by
  unfold L_impl_reduce_5
  have key := za0 zcI (fun j=>(n,k0,u * c,c,i * c,c,t,t1,(c:Int),(j:Int),v,v1,v2,v3,v4,v5,v6,(r:Int),(c:Int),(ro f).neg,(ro f).mag,(ro f).den,(grid r c (fun a b=>if a=i∧b < j then zoX (g i b) (zl6 f (g u b)) else g a b)).map ro,fs,pv,())) c
    (n, k0,u * c,c,i * c,c,t,t1,v,v1,v2,v3,v4,v5,v6,(r:Int),(c:Int),(grid r c (fun a b=>if a=i∧b < c then zoX (g i b) (zl6 f (g u b)) else g a b)).map ro,fs,pv,()) (fun j hj=>by
      have s1:=zgf (r:=r) (c:=c) (g:=fun a b=>if a=i∧b < j then zoX (g i b) (zl6 f (g u b)) else g a b) (h:=fun a b=>if a=i∧b < j+1 then zoX (g i b) (zl6 f (g u b)) else g a b) (o:=zoX (g i j) (zl6 f (g u j))) hi hj (fun a b _ _=>by
        by_cases hb:b=j
        · subst hb
          by_cases h1:a=i
          · subst h1; simp
          · simp[h1]
        · have:(b < j+1)=(b < j):=by rw[eq_iff_iff]; omega
          simp[hb,this])
      have hui:u≠i:=fun e=>hiu e.symm
      simp only[zcI,dlt hj,cond_true,zgi hu hj,zgi hi hj,Int.toNat_natCast,zeh hu hj,zeh hi hj,Option.bind_some,Nat.lt_irrefl,and_false,if_false,hui,false_and]
      show ((zec (ro f) (ro (g u j))).bind _)=_
      simp only[zDe hf (hg u j hu hj),Option.bind_some,zDc (hg i j hi hj) (zvO (o:=f) (p:=g u j)),s1,zas hj (show c≤1048576 by omega)]) (by simp[zcI])
  refine Eq.trans ?_ (key.trans ?_)
  · rw[zaK (r:=r) (c:=c) (g:=fun a b=>if a=i∧b < 0 then zoX (g i b) (zl6 f (g u b)) else g a b) (h:=g) (fun a b _ _=>by simp)]; rfl
  · rw[zaK (r:=r) (c:=c) (g:=fun a b=>if a=i∧b < c then zoX (g i b) (zl6 f (g u b)) else g a b) (h:=fun a b=>if a=i then zoX (g i b) (zl6 f (g u b)) else g a b) (fun a b _ hb=>by simp[hb])]
def rowB (c:Nat) (g:Nat→Nat→Option Rat) (i:Nat):Bool:=((List.range c).map (g i)).all Option.isSome
theorem zmg {i:Nat}:rowB c g i=true↔∀ j,j < c→(g i j).isSome=true:=by
  unfold rowB
  rw[List.all_eq_true]
  constructor
  · intro h j hj; exact h _ (List.mem_map.2 ⟨j,List.mem_range.2 hj,rfl⟩)
  · intro h o ho; obtain ⟨j,hj,rfl⟩:=List.mem_map.1 ho; exact h j (List.mem_range.1 hj)
theorem zA0:(List.range r).all (rowB c g)=znU r c g:=by
  rw[Bool.eq_iff_iff,List.all_eq_true,zcm]
  constructor
  · intro h i j hi hj; exact zmg.1 (h i (List.mem_range.2 hi)) j hj
  · intro h i hi; exact zmg.2 fun j hj=>h i j (List.mem_range.1 hi) hj
theorem iel_clear (hr:r≤24) (hc:c≤200) (hg:∀ i k,i < r→k < c→Oks (g i k)) (hall:∀ i k,i < r→k < c→(g i k).isSome=true) (hu:u < r) (hk:k < c) (v v1 v5 v6:Int) (v2 v4 fs:List Rt) (v3 pv:List Int) :
    L_impl_reduce_4 u k (u * c) c r 0 v v1 v2 v3 v4 v5 v6 r c ((grid r c g).map ro) fs pv =
      some (cond (znU r c (clr g u k)) (.inr ((u:Int),(k:Int),v,v1,v2,v3,v4,v5,v6,(r:Int),(c:Int),(grid r c (clr g u k)).map ro,fs,pv,())) (.inl (false,0,0,[],[],[],()))):=by
  unfold L_impl_reduce_4
  rw[← zA0]
  have hgi:∀ i,clr g u k i=(fun b=>clr g u k i b):=fun _=>rfl
  have key := stop_loop (S:=zcJ) (fun i=>((u:Int),(k:Int),u * c,c,(r:Int),(i:Int),v,v1,v2,v3,v4,v5,v6,(r:Int),(c:Int),(grid r c (fun a b=>if a < i then clr g u k a b else g a b)).map ro,fs,pv,())) r (rowB c (clr g u k))
    (.inl (false,0,0,[],[],[],())) (.inr ((u:Int),(k:Int),v,v1,v2,v3,v4,v5,v6,(r:Int),(c:Int),(grid r c (clr g u k)).map ro,fs,pv,())) (fun i hi _=>by
      have same:(∀ b,clr g u k i b=g i b)→grid r c (fun a b=>if a < i+1 then clr g u k a b else g a b)=grid r c (fun a b=>if a < i then clr g u k a b else g a b):=fun h=>zaK fun a b _ _=>by
        by_cases h1:a < i
        · rw[if_pos h1,if_pos (by omega)]
        · rw[if_neg h1]
          by_cases h2:a=i
          · subst h2; rw[if_pos (by omega),h]
          · rw[if_neg (by omega)]
      have whole:(∀ b,clr g u k i b=g i b)→rowB c (clr g u k) i=true:=fun h=>zmg.2 fun j hj=>by rw[h]; exact hall i j hi hj
      have hrow:=zqz (xs:=(grid r c (fun a b=>if a < i then clr g u k a b else g a b)).map ro) hr hc (by rw[List.length_map,zaU]) hi r
      simp only[zcJ,dlt hi,cond_true,hrow,Option.bind_some]
      by_cases hiu:i=u
      · subst hiu
        have e:∀ b,clr g i k i b=g i b:=fun b=>by unfold clr; rw[if_pos rfl]
        rw[same e,whole e]
        simp only[beq_self_eq_true,cond_true,zas hi (show r≤1048576 by omega)]
      · have hb : ((i:Int)==(u:Int))=false:=by
          rw[beq_eq_false_iff_ne]; omega
        have hui:(if u < i then clr g u k u k else g u k)=g u k:=by
          split
          · unfold clr; rw[if_pos rfl]
          · rfl
        have gk:idx (cut ((grid r c (fun a b=>if a < i then clr g u k a b else g a b)).map ro) (i * c) (i * c+c)) (k:Int)=some (ro (g i k)):=by
          rw[zgi hi hk,if_neg (Nat.lt_irrefl i)]
        have gg:((grid r c (fun a b=>if a < i then clr g u k a b else g a b)).map ro)[i * c+k]? = some (ro (g i k)):=by
          rw[zeh hi hk,if_neg (Nat.lt_irrefl i)]
        simp only[hb,cond_false,gk,Int.toNat_natCast,gg,Option.bind_some,zs8]
        have hnn:g i k≠none:=fun e=>by have:=hall i k hi hk; rw[e] at this; cases this
        by_cases h0:g i k=some 0
        · have e:∀ b,clr g u k i b=g i b:=fun b=>by unfold clr; rw[if_neg hiu,if_pos h0]
          rw[decide_eq_true (.inl h0),cond_true,same e,whole e]
          simp only[cond_true,zas hi (show r≤1048576 by omega)]
        · rw [decide_eq_false (by rintro (h | h); exact h0 h; exact hnn h),cond_false]
          have h1:=iel_clear1 (u:=u) (g:=fun a b=>if a < i then clr g u k a b else g a b) hc (fun a b h1 h2=>by
            show Oks (if a < i then clr g u k a b else g a b)
            split
            · exact zBj hg h1 h2
            · exact hg a b h1 h2) hi hu hiu (hg i k hi hk) u k r i v v1 v5 v6 v2 v4 fs v3 pv
          have hgrid:grid r c (fun a b=>if a=i then zoX (if i < i then clr g u k i b else g i b) (zl6 (g i k) (if u < i then clr g u k u b else g u b)) else if a < i then clr g u k a b else g a b)=grid r c (fun a b=>if a < i+1 then clr g u k a b else g a b):=zaK fun a b _ _=>by
            by_cases h2:a=i
            · subst h2
              have hsu:(if u < a then clr g u k u b else g u b)=g u b:=by
                split
                · unfold clr; rw[if_pos rfl]
                · rfl
              rw[if_pos rfl,if_pos (show a < a+1 by omega),if_neg (Nat.lt_irrefl a),hsu]
              unfold clr; rw[if_neg hiu,if_neg h0]
            · rw[if_neg h2]
              have:(a < i+1)=(a < i):=by rw[eq_iff_iff]; omega
              simp only[this]
          rw[hgrid] at h1
          rw[h1]
          simp only[Option.bind_some]
          rw[zA3 hi hc]
          have hrb:(((List.range c).map fun b=>if i < i+1 then clr g u k i b else g i b).all Option.isSome)=rowB c (clr g u k) i:=by
            unfold rowB; congr 2; funext b; rw[if_pos (by omega)]
          rw[hrb,Option.bind_some]
          cases rowB c (clr g u k) i with
          | false=>rfl
          | true=>simp only[Bool.not_true,cond_false,cond_true,zas hi (show r≤1048576 by omega)]) (fun _=>by
      have e:grid r c (fun a b=>if a < r then clr g u k a b else g a b)=grid r c (clr g u k):=zaK fun a b h _=>if_pos h
      simp[zcJ,e])
  refine Eq.trans ?_ key
  rw[zaK (r:=r) (c:=c) (g:=fun a b=>if a < 0 then clr g u k a b else g a b) (h:=g) (fun a b _ _=>if_neg (by omega))]; rfl
end
end Go.Di
namespace Go.Di
theorem zMQ {x:Option Int} {left:Int} {n:Nat} {k:Int→Option Bool} (h:SzR x left n) (hk:∀ r:Int,0≤r→r+n=left→k r=some true) :
    (x.bind fun r=>cond (decide (r < 0)) (some true) (k r))=some true:=by
  rcases h with rfl | ⟨r,h0,h1,rfl⟩
  · rfl
  · have:decide (r < 0)=false:=by simpa using h0
    simp only[Option.bind_some,this,cond_false,hk r h0 h1]
end Go.Di
namespace Go.Di
end Go.Di
namespace Go.Di
section
variable {r c:Nat} {g:Nat→Nat→Option Rat} {k:Nat}
def ist (r c k:Nat) (s:ES):Int × Int × Int × Int × (List Rt) × (List Int) × (List Rt) × Int × Int × Int × Int × (List Rt) × (List Int) × (List Rt) × Unit :=
  ((s.pv.length:Int),(k:Int),0,0,[],[],[],(r:Int),(c:Int),(r:Int),(c:Int),(grid r c s.g).map ro,s.pv,s.fs.map ro,())
theorem impl_step {s:ES} (hr:r≤24) (hc:c≤200) (h:EInv r c k s) (hk:k < c) (hur:s.pv.length < r) :
    (∃ s',zhP r c k s=some s'∧zaP (ist r c k s)=some (.inl (ist r c (k+1) s'))) ∨
    (zhP r c k s=none∧zaP (ist r c k s)=some (.inr (.inl (false,0,0,[],[],[],())))):=by
  unfold zhP
  rw[if_pos hur]
  obtain ⟨pl,ph⟩:=zkR s.g k (r - s.pv.length) s.pv.length
  have hfind:=iel_find (u:=s.pv.length) hr hc h.good hk (Nat.le_of_lt hur) s.pv.length 0 0 r c [] [] (s.fs.map ro) [] s.pv
  have hne:zhM s.g k (r - s.pv.length) s.pv.length < s.pv.length+(r - s.pv.length)→s.g (zhM s.g k (r - s.pv.length) s.pv.length) k≠some 0:=zmR s.g k _ _
  generalize zhM s.g k (r - s.pv.length) s.pv.length=p at *
  simp only
  have hdec:decide ((s.pv.length:Int) < (r:Int))=true:=decide_eq_true (by omega)
  have fl1:zaj (Nat.ble ((s.fs.map ro).length+1) zan)=some ():=zmF (by rw[List.length_map]; have:=h.fslen; omega)
  have fl2:zaj (Nat.ble ((s.fs.map ro++[ro (some (-1))]).length+1) zan)=some ():=zmF (by rw[List.length_append,List.length_map]; have:=h.fslen; simp; omega)
  have pl1:zaj (Nat.ble (s.pv.length+1) zan)=some ():=zmF (by omega)
  by_cases hpr:p=r
  · subst hpr
    left
    rw[if_pos rfl]
    refine ⟨s,rfl,?_⟩
    unfold ist
    simp only[zaP,dlt hk,cond_true,hdec,hfind,Option.bind_some,beq_self_eq_true,zas hk (show c≤1048576 by omega)]
  · rw [if_neg hpr]
    have hp:p < r:=by omega
    have hne:=hne (by omega)
    have g1:=zma (u:=s.pv.length) h.good hp hur
    have z1:=zl9 (c:=c) hur hp pl h.zero
    have e1:swp s.g p s.pv.length s.pv.length k=s.g p k:=by
      unfold swp
      split
      · rename_i e; rw[e]
      · rw[if_pos rfl]
    have hself:p=s.pv.length→swp s.g p s.pv.length=s.g:=fun e=>by
      subst e; funext a b; unfold swp; split
      · rename_i h; rw[h]
      · rfl
    have hsw:=iel_swap (g:=s.g) (r:=r) (c:=c) hc hp hur s.pv.length k 0 0 r c [] [] (s.fs.map ro++[ro (some (-1))]) [] s.pv
    have hrow1:=zqz (xs:=(grid r c s.g).map ro) hr hc (by rw[List.length_map,zaU]) hp r
    have hrow2:=zqz (xs:=(grid r c s.g).map ro) hr hc (by rw[List.length_map,zaU]) hur r
    generalize swp s.g p s.pv.length=gg at *
    obtain ⟨y,hy⟩:=Option.isSome_iff_exists.1 (g1 s.pv.length k hur hk).2
    have hy0:y≠0:=fun e0=>hne (by rw[← e1,hy,e0])
    have hbeq:((p:Int)==(r:Int))=false:=by rw[beq_eq_false_iff_ne]; omega
    have hrow3:=zqz (xs:=(grid r c gg).map ro) hr hc (by rw[List.length_map,zaU]) hur r
    have hat1:=zgi (r:=r) (c:=c) (g:=gg) hur hk
    have hat2:=zeh (r:=r) (c:=c) (g:=gg) hur hk
    have hdivl:=fun fs=>iel_div (r:=r) (c:=c) (g:=gg) hc g1 hk hur s.pv.length k 0 0 r c [] [] fs [] s.pv
    have o2:∀ i j,i < r→j < c→Oks (dvd gg s.pv.length k i j):=fun i j hi hj=>ztz g1 hi hj
    have hrowc:=zA3 (r:=r) (c:=c) (g:=dvd gg s.pv.length k) hur hc
    have htop:(((List.range c).map (dvd gg s.pv.length k s.pv.length)).all Option.isSome)=znU r c (dvd gg s.pv.length k):=by
      rw[Bool.eq_iff_iff,zcm]
      have hb:=zmg (c:=c) (g:=dvd gg s.pv.length k) (i:=s.pv.length)
      refine hb.trans ⟨fun ha i j hi hj=>?_,fun ha j hj=>ha _ j hur hj⟩
      by_cases hiu:i=s.pv.length
      · rw[hiu]; exact ha j hj
      · unfold dvd; rw[if_neg hiu]; exact (g1 i j hi hj).2
    rw[htop] at hrowc
    have hS:zaP (ist r c k s)=cond (!znU r c (dvd gg s.pv.length k)) (some (.inr (.inl (false,0,0,[],[],[],()))))
        ((L_impl_reduce_4 s.pv.length k (s.pv.length * c) c r 0 0 0 [] [] [] r c r c ((grid r c (dvd gg s.pv.length k)).map ro) (((s.fs++if p≠s.pv.length then [some (-1)] else [])++[gg s.pv.length k]).map ro) s.pv).bind fun r1 =>
        match r1 with
        | .inl (t,v27,v28,v29,v30,v31,_)=>some (.inr (.inl (t,v27,v28,v29,v30,v31,())))
        | .inr (used3,c3,v32,v33,v34,v35,v36,v37,v38,v39,v40,xs9,xs10,xs11,_) =>
          (zaj (Nat.ble (xs11.length+1) zan)).bind fun _ =>
          some (.inl (IntKind.i64.wrap (used3+1),IntKind.i64.wrap (c3+1),v32,v33,v34,v35,v36,v37,v38,v39,v40,xs9,xs11++([c3]:List Int),xs10,()))):=by
      by_cases hpu:p=s.pv.length
      · have hbne:((p:Int) != (s.pv.length:Int))=false:=by rw[hpu]; simp
        rw[if_neg (fun h=>h hpu),List.append_nil,List.map_append,List.map_singleton]
        have hg:=hself hpu
        unfold ist
        simp only[zaP,dlt hk,cond_true,hdec,hfind,Option.bind_some,hbeq,cond_false,hbne]
        rw[← hg]
        simp only[hrow3,hat1,hat2,Int.toNat_natCast,Option.bind_some,fl1,hdivl,hrowc]
        rfl
      · have hbne:((p:Int) != (s.pv.length:Int))=true:=by
          rw[bne_iff_ne]; omega
        have hm1:zeb (-1)=some (ro (some (-1))):=by
          have:=zyU (n := -1) (by omega) (by omega)
          rw[this]; simp
        rw[if_pos hpu,List.map_append,List.map_append,List.map_singleton,List.map_singleton]
        unfold ist
        simp only[zaP,dlt hk,cond_true,hdec,hfind,Option.bind_some,hbeq,cond_false,hbne,hm1,fl1,hrow1,hrow2,hsw,hrow3,hat1,hat2,Int.toNat_natCast,fl2,hdivl,hrowc]
        rfl
    cases h2:znU r c (dvd gg s.pv.length k) with
    | false =>
      right
      rw[h2] at hS
      exact ⟨by rw[Bool.false_and]; rfl,hS⟩
    | true =>
      have a2:=zcm.1 h2
      rw[h2] at hS
      have hcl:=iel_clear (g:=dvd gg s.pv.length k) hr hc o2 a2 hur hk 0 0 r c [] [] (((s.fs++if p≠s.pv.length then [some (-1)] else [])++[gg s.pv.length k]).map ro) [] s.pv
      rw[hcl] at hS
      rw[Bool.true_and]
      cases h3:znU r c (clr (dvd gg s.pv.length k) s.pv.length k) with
      | false =>
        right
        rw[h3] at hS
        exact ⟨rfl,hS⟩
      | true =>
        left
        rw[h3] at hS
        refine ⟨_,rfl,hS.trans ?_⟩
        unfold ist
        simp only[Bool.not_true,cond_false,cond_true,Option.bind_some,pl1,zas hur (show r≤1048576 by omega),zas hk (show c≤1048576 by omega),List.length_append,List.length_singleton]
theorem zDh (hr:r≤24) (hc:c≤200) (hg:zdD r c g):∀ n k s,k+n=c→elim r c g k=some s →
    (∃ f,elim r c g c=some f∧whileO zaP (ist r c k s)=some (.inr (0,0,[],[],[],(r:Int),(c:Int),(grid r c f.g).map ro,f.pv,f.fs.map ro,()))) ∨
    (elim r c g c=none∧whileO zaP (ist r c k s)=some (.inl (false,0,0,[],[],[],()))):=by
  intro n
  induction n with
  | zero =>
    intro k s hk e
    have:k=c:=by omega
    subst this
    left
    refine ⟨s,e,zaA ?_⟩
    unfold ist
    simp[zaP]
  | succ n ih =>
    intro k s hk e
    have hkc:k < c:=by omega
    have hi:=ze5 hg (Nat.le_of_lt hkc) e
    by_cases hu:s.pv.length < r
    · rcases impl_step hr hc hi hkc hu with ⟨s',e1,e2⟩ | ⟨e1,e2⟩
      · rw[zbm e2]
        exact ih (k+1) s' (by omega) (by unfold elim; rw[e]; exact e1)
      · right
        refine ⟨?_,zaA e2⟩
        have:elim r c g (k+1)=none:=by unfold elim; rw[e]; exact e1
        have:=elim_none this n
        rw[show k+1+n=c by omega] at this
        exact this
    · left
      have:=zkx e hu (n+1)
      rw[hk] at this
      refine ⟨s,this,zaA ?_⟩
      unfold ist
      simp only[zaP,dlt hkc,cond_true,decide_eq_false (show ¬ (s.pv.length:Int) < (r:Int) by omega),cond_false]
theorem zm8 (hr:r≤24) (hc:c≤200) (hg:zdD r c g) :
    (∃ f,elim r c g c=some f∧zct ⟨r,c,(grid r c g).map ro⟩=some (⟨r,c,(grid r c f.g).map ro,f.pv,f.fs.map ro⟩,true)) ∨
    (elim r c g c=none∧zct ⟨r,c,(grid r c g).map ro⟩=some (⟨0,0,[],[],[]⟩,false)):=by
  have hcp:zb6 ((grid r c g).map ro)=some ((grid r c g).map ro):=zrg (by
    have:r * c≤24 * 200:=Nat.mul_le_mul hr hc
    refine ⟨by rw[List.length_map,zaU]; omega,fun x hx=>?_⟩
    obtain ⟨o,ho,rfl⟩:=List.mem_map.1 hx
    obtain ⟨i,j,hi,hj,rfl⟩:=zps ho
    exact zJx (hg i j hi hj).1)
  rcases zDh hr hc hg c 0 ⟨g,[],[]⟩ (by omega) rfl with ⟨f,e1,e2⟩ | ⟨e1,e2⟩
  · left
    refine ⟨f,e1,?_⟩
    unfold zct zeO
    rw[hcp,Option.bind_some]
    exact congrArg (fun x=>Option.bind x _) e2
  · right
    refine ⟨e1,?_⟩
    unfold zct zeO
    rw[hcp,Option.bind_some]
    exact congrArg (fun x=>Option.bind x _) e2
end
def gof (q:List Rat) (c:Nat):Nat→Nat→Option Rat:=fun i k=>q[i * c+k]?
theorem zpv {q:List Rat} {r c:Nat} (hl:q.length=r * c):(grid r c (gof q c)).map ro=q.map rq:=by
  rw[zKr]
  congr 1
  apply List.ext_getElem?
  intro j
  by_cases hj:j < r * c
  · obtain ⟨h1,h2,h3⟩:=zky hj
    rw[zj8 _ hj]
    unfold gof
    rw[h3,List.getElem?_map]
    have:j < q.length:=by omega
    simp[this]
  · rw[List.getElem?_eq_none (by rw[zaU]; omega),List.getElem?_eq_none (by rw[List.length_map]; omega)]
theorem zmo {q:List Rat} {r c:Nat} (hl:q.length=r * c) (hf:Fits q):zdD r c (gof q c):=fun i k hi hk=>by
  have h:i * c+k < q.length:=by rw[hl]; exact zu5 hi hk
  unfold gof
  exact ⟨hf.get _,by simp[h]⟩
end Go.Di
namespace Go.Di
end Go.Di
namespace Go.Di
theorem zDs {r c:Nat} {g:Nat→Nat→Option Rat} (hr:r≤24) (hc:c≤200) (h:zdD r c g):zcy ((grid r c g).map ro)=some true:=by
  have hp:r * c≤24 * 200:=Nat.mul_le_mul hr hc
  rw[zmy (by rw[zaU]; omega)]
  congr 1
  exact zcm.2 fun i k hi hk=>(h i k hi hk).2
/-! ### Determinants -/
def ztw (l:List (Option Rat)):Nat→Option Rat
  | 0=>some 1
  | i+1=>zl6 (ztw l i) (l[i]?.getD none)
end Go.Di
namespace Go.Di
/-! ### Loops that run alike,loops that keep something -/
theorem zm6 {σ τ ρ θ:Type} {S:σ→Option (σ ⊕ ρ)} {T:τ→Option (τ ⊕ θ)} (E:τ→σ) (F:θ→ρ) (h:∀ t,S (E t)=(T t).map (Sum.map E F)):∀ (n:Nat) (t:τ),zhV S n (E t)=(zhV T n t).map F
  | 0,_=>rfl
  | n + 1,t=>by
    unfold zhV
    rw[h t]
    cases ht:T t with
    | none=>rfl
    | some r =>
      cases r with
      | inl t'=>exact zm6 E F h n t'
      | inr y=>rfl
theorem whileO_map {σ τ ρ θ:Type} {S:σ→Option (σ ⊕ ρ)} {T:τ→Option (τ ⊕ θ)} (E:τ→σ) (F:θ→ρ) (h:∀ t,S (E t)=(T t).map (Sum.map E F)) (t:τ):whileO S (E t)=(whileO T t).map F:=by
  cases ht:whileO T t with
  | some y =>
    obtain ⟨n,hn⟩:=zdF.1 ht
    exact zdF.2 ⟨n,by rw[zm6 E F h,hn]; rfl⟩
  | none =>
    cases hs:whileO S (E t) with
    | none=>rfl
    | some r =>
      obtain ⟨n,hn⟩:=zdF.1 hs
      rw[zm6 E F h] at hn
      cases hy:zhV T n t with
      | none=>rw[hy] at hn; cases hn
      | some y=>rw[zdF.2 ⟨n,hy⟩] at ht; cases ht
theorem zs9 {τ θ:Type} {T:τ→Option (τ ⊕ θ)} (I:τ→Prop) (Q:θ→Prop) (h1:∀ t t',I t→T t=some (.inl t')→I t') (h2:∀ t y,I t→T t=some (.inr y)→Q y) {t:τ} {y:θ} (hi:I t) (h:whileO T t=some y):Q y:=by
  obtain ⟨n,hn⟩:=zdF.1 h
  clear h
  induction n generalizing t with
  | zero=>cases hn
  | succ n ih =>
    unfold zhV at hn
    cases ht:T t with
    | none=>rw[ht] at hn; cases hn
    | some r =>
      rw[ht] at hn
      cases r with
      | inl t'=>exact ih (h1 t t' hi ht) hn
      | inr z=>cases hn; exact h2 t y hi ht
/-! ### Taking the numbers away -/
abbrev ers (l:List TRt):List Rt:=l.map TRt.er
theorem zDw (e:TRt):(TRt.er e).neg=e.neg:=rfl
theorem zDx (e:TRt):(TRt.er e).mag=e.mag.xs:=rfl
theorem zDy (e:TRt):(TRt.er e).den=e.den.xs:=rfl
theorem zLQ (r:Rt) (a b:Nat):TRt.er ⟨r.neg,⟨a,r.mag⟩,⟨b,r.den⟩⟩=r:=rfl
theorem zc6 {α β γ:Type} (o:Option α) (f:α→β) (g:β→Option γ):(o.map f).bind g=o.bind fun a=>g (f a):=by cases o<;>rfl
theorem zdY {α β γ:Type} (o:Option α) (g:α→Option β) (f:β→γ):(o.bind g).map f=o.bind fun a=>(g a).map f:=by cases o<;>rfl
theorem zgN {α β:Type} (b:Bool) (x y:Option α) (f:α→β):(cond b x y).map f=cond b (x.map f) (y.map f):=by cases b<;>rfl
theorem zhj {α β:Type} (f:α→β) (l:List α) (i:Int):idx (l.map f) i=(idx l i).map f:=by
  unfold idx; split
  · rw[List.getElem?_map]
  · rfl
theorem ziJ {α β:Type} (f:α→β) (l:List α) (a b:Nat):cut (l.map f) a b=(cut l a b).map f:=by simp[cut,List.map_take,List.map_drop]
theorem ztd:∀ (n:Nat) (l:List Rt),(zl4 n l).map TRt.er=l
  | _,[]=>rfl
  | n,r :: l=>by simp only[zl4,List.map_cons,ztd (n+2) l]; rfl
theorem zph {α β:Type} (f:α→β) (l:List α) (i:Nat) (a:α):(l.set i a).map f=(l.map f).set i (f a):=List.map_set
theorem zA1 (r c i:Int) (l:List TRt):zaI ⟨r,c,ers l⟩ i=(zaJ ⟨r,c,l⟩ i).map fun p=>(p.1,ers p.2):=by
  simp only[zaI,zaJ,List.length_map,zdY,Option.map_some]
theorem zQf (r c i k:Int) (l:List TRt):zbk ⟨r,c,ers l⟩ i k=(za2 ⟨r,c,l⟩ i k).map fun e=>(TRt.er e,ers l):=by
  simp only[zbk,za2,zhj,zc6,zdY,Option.map_some]
  generalize IntKind.i64.wrap (IntKind.i64.wrap (i * c)+k)=j
  unfold idx
  split
  · rw[List.getElem?_map]
    cases l[j.toNat]? <;> rfl
  · rfl
/-! ### The loops of the reduction -/
abbrev F5:Int × Int × Nat × Nat × Nat × Nat × Int × Int × Int × Int × Int × Int × Int × Int × (List TRt) × (List TRt) × (List Int) × (List TRt) × (List Int) × (List TRt) × Nat × Unit→Int × Int × Nat × Nat × Nat × Nat × Int × Int × Int × Int × (List Rt) × (List Int) × (List Rt) × Int × Int × Int × Int × (List Rt) × (List Rt) × (List Int) × Unit :=
  fun (used,c,lo,len,lo1,len1,t,t1,v,v1,v2,v3,v4,v5,xs,xs1,xs2,xs3,xs4,xs5,_,_)=>(used,c,lo,len,lo1,len1,t,t1,v,v1,ers xs3,xs4,ers xs5,v2,v3,v4,v5,ers xs,ers xs1,xs2,())
theorem zKu (used c:Int) (lo len lo1 len1:Nat) (t t1 t2 t3 v v1 v2 v3 v4 v5:Int) (v6:Bool) (v7 v8:Tk) (xs xs1:List TRt) (xs2:List Int) (xs3:List TRt) (xs4:List Int) (xs5:List TRt) (np:Nat) :
    L_impl_reduce_5 used c lo len lo1 len1 t t1 t2 t3 v v1 (ers xs3) xs4 (ers xs5) v2 v3 v4 v5 v6 v7.xs v8.xs (ers xs) (ers xs1) xs2=(ze1 used c lo len lo1 len1 t t1 t2 t3 v v1 v2 v3 v4 v5 v6 v7 v8 xs xs1 xs2 xs3 xs4 xs5 np).map F5 :=
  whileO_map (S:=zcI) (T:=zbr) (fun (used,c,lo,len,lo1,len1,t,t1,t2,t3,v,v1,v2,v3,v4,v5,v6,v7,v8,xs,xs1,xs2,xs3,xs4,xs5,_,_)=>(used,c,lo,len,lo1,len1,t,t1,t2,t3,v,v1,ers xs3,xs4,ers xs5,v2,v3,v4,v5,v6,v7.xs,v8.xs,ers xs,ers xs1,xs2,())) F5
    (fun (used,c,lo,len,lo1,len1,t,t1,t2,t3,v,v1,v2,v3,v4,v5,v6,v7,v8,xs,xs1,xs2,xs3,xs4,xs5,np,_)=>by
      simp only[zcI,zbr,zgN,zdY,zc6,zhj,ziJ,List.getElem?_map,Option.map_some,Sum.map_inl,Sum.map_inr,zph,zLQ]) (used,c,lo,len,lo1,len1,t,t1,t2,t3,v,v1,v2,v3,v4,v5,v6,v7,v8,xs,xs1,xs2,xs3,xs4,xs5,np,())
abbrev F3:Int × Int × Nat × Nat × Int × Int × Int × Int × Int × Int × (List TRt) × (List TRt) × (List Int) × (List TRt) × (List Int) × (List TRt) × Nat × Unit→Int × Int × Nat × Nat × Int × Int × (List Rt) × (List Int) × (List Rt) × Int × Int × Int × Int × (List Rt) × (List Rt) × (List Int) × Unit :=
  fun (used,c,lo,len,v,v1,v2,v3,v4,v5,xs,xs1,xs2,xs3,xs4,xs5,_,_)=>(used,c,lo,len,v,v1,ers xs3,xs4,ers xs5,v2,v3,v4,v5,ers xs,ers xs1,xs2,())
theorem zA8 (used c:Int) (lo len:Nat) (t t1 v v1 v2 v3 v4 v5:Int) (v6:Bool) (v7 v8:Tk) (xs xs1:List TRt) (xs2:List Int) (xs3:List TRt) (xs4:List Int) (xs5:List TRt) (np:Nat) :
    L_impl_reduce_3 used c lo len t t1 v v1 (ers xs3) xs4 (ers xs5) v2 v3 v4 v5 v6 v7.xs v8.xs (ers xs) (ers xs1) xs2=(zdS used c lo len t t1 v v1 v2 v3 v4 v5 v6 v7 v8 xs xs1 xs2 xs3 xs4 xs5 np).map F3 :=
  whileO_map (S:=zcK) (T:=zbt) (fun (used,c,lo,len,t,t1,v,v1,v2,v3,v4,v5,v6,v7,v8,xs,xs1,xs2,xs3,xs4,xs5,_,_)=>(used,c,lo,len,t,t1,v,v1,ers xs3,xs4,ers xs5,v2,v3,v4,v5,v6,v7.xs,v8.xs,ers xs,ers xs1,xs2,())) F3
    (fun (used,c,lo,len,t,t1,v,v1,v2,v3,v4,v5,v6,v7,v8,xs,xs1,xs2,xs3,xs4,xs5,np,_)=>by
      simp only[zcK,zbt,zgN,zdY,zc6,zhj,ziJ,List.getElem?_map,Option.map_some,Sum.map_inl,Sum.map_inr,zph,zLQ]) (used,c,lo,len,t,t1,v,v1,v2,v3,v4,v5,v6,v7,v8,xs,xs1,xs2,xs3,xs4,xs5,np,())
abbrev F2:Int × Int × Int × Int × Int × Int × Int × Int × (List TRt) × (List TRt) × (List Int) × (List TRt) × (List Int) × (List TRt) × Nat × Unit→Int × Int × Int × Int × (List Rt) × (List Int) × (List Rt) × Int × Int × Int × Int × (List Rt) × (List Rt) × (List Int) × Unit :=
  fun (used,c,v,v1,v2,v3,v4,v5,xs,xs1,xs2,xs3,xs4,xs5,_,_)=>(used,c,v,v1,ers xs3,xs4,ers xs5,v2,v3,v4,v5,ers xs,ers xs1,xs2,())
theorem zKv (used c:Int) (lo len lo1 len1:Nat) (t t1 v v1 v2 v3 v4 v5:Int) (xs xs1:List TRt) (xs2:List Int) (xs3:List TRt) (xs4:List Int) (xs5:List TRt) (np:Nat) :
    L_impl_reduce_2 used c lo len lo1 len1 t t1 v v1 (ers xs3) xs4 (ers xs5) v2 v3 v4 v5 (ers xs) (ers xs1) xs2=(ze2 used c lo len lo1 len1 t t1 v v1 v2 v3 v4 v5 xs xs1 xs2 xs3 xs4 xs5 np).map F2 :=
  whileO_map (S:=zcL) (T:=zbu) (fun (used,c,lo,len,lo1,len1,t,t1,v,v1,v2,v3,v4,v5,xs,xs1,xs2,xs3,xs4,xs5,_,_)=>(used,c,lo,len,lo1,len1,t,t1,v,v1,ers xs3,xs4,ers xs5,v2,v3,v4,v5,ers xs,ers xs1,xs2,())) F2
    (fun (used,c,lo,len,lo1,len1,t,t1,v,v1,v2,v3,v4,v5,xs,xs1,xs2,xs3,xs4,xs5,np,_)=>by
      simp only[zcL,zbu,zgN,zdY,zc6,← zph,zhj,ziJ,List.getElem?_map,Option.map_some,Sum.map_inl,Sum.map_inr]) (used,c,lo,len,lo1,len1,t,t1,v,v1,v2,v3,v4,v5,xs,xs1,xs2,xs3,xs4,xs5,np,())
abbrev F1:Int × Int × Int × Int × Int × Int × Int × Int × Int × (List TRt) × (List Int) × (List TRt) × (List TRt) × (List Int) × (List TRt) × Nat × Unit→Int × Int × Int × Int × Int × (List Rt) × (List Int) × (List Rt) × Int × Int × Int × Int × (List Rt) × (List Int) × (List Rt) × Unit :=
  fun (used,c,p,v,v1,v2,v3,v4,v5,xs,xs1,xs2,xs3,xs4,xs5,_,_)=>(used,c,p,v,v1,ers xs3,xs4,ers xs5,v2,v3,v4,v5,ers xs,xs1,ers xs2,())
theorem zKw (used c p v v1 v2 v3 v4 v5:Int) (xs:List TRt) (xs1:List Int) (xs2:List TRt) (xs3:List TRt) (xs4:List Int) (xs5:List TRt) (np:Nat) :
    zeN used c p v v1 (ers xs3) xs4 (ers xs5) v2 v3 v4 v5 (ers xs) xs1 (ers xs2)=(ze3 used c p v v1 v2 v3 v4 v5 xs xs1 xs2 xs3 xs4 xs5 np).map F1 :=
  whileO_map (S:=zb9) (T:=zbv) (fun (used,c,p,v,v1,v2,v3,v4,v5,xs,xs1,xs2,xs3,xs4,xs5,_,_)=>(used,c,p,v,v1,ers xs3,xs4,ers xs5,v2,v3,v4,v5,ers xs,xs1,ers xs2,())) F1
    (fun (used,c,p,v,v1,v2,v3,v4,v5,xs,xs1,xs2,xs3,xs4,xs5,np,_)=>by
      simp only[zb9,zbv,zgN,zdY,zQf,zc6,Option.map_some,Sum.map_inl,Sum.map_inr]) (used,c,p,v,v1,v2,v3,v4,v5,xs,xs1,xs2,xs3,xs4,xs5,np,())
abbrev F4:(Bool × Int × Int × (List TRt) × (List Int) × (List TRt) × Nat × Unit) ⊕ (Int × Int × Int × Int × Int × Int × Int × Int × (List TRt) × (List TRt) × (List Int) × (List TRt) × (List Int) × (List TRt) × Nat × Unit)→(Bool × Int × Int × (List Rt) × (List Int) × (List Rt) × Unit) ⊕ (Int × Int × Int × Int × (List Rt) × (List Int) × (List Rt) × Int × Int × Int × Int × (List Rt) × (List Rt) × (List Int) × Unit) :=
  Sum.map (fun (b,v,v1,xs,xs1,xs2,_,_)=>(b,v,v1,ers xs,xs1,ers xs2,())) fun (used,c,v,v1,v2,v3,v4,v5,xs,xs1,xs2,xs3,xs4,xs5,_,_)=>(used,c,v,v1,ers xs3,xs4,ers xs5,v2,v3,v4,v5,ers xs,ers xs1,xs2,())
theorem zA7 (used c:Int) (lo len:Nat) (t t1 v v1 v2 v3 v4 v5:Int) (xs xs1:List TRt) (xs2:List Int) (xs3:List TRt) (xs4:List Int) (xs5:List TRt) (np:Nat) :
    L_impl_reduce_4 used c lo len t t1 v v1 (ers xs3) xs4 (ers xs5) v2 v3 v4 v5 (ers xs) (ers xs1) xs2=(zdR used c lo len t t1 v v1 v2 v3 v4 v5 xs xs1 xs2 xs3 xs4 xs5 np).map F4 :=
  whileO_map (S:=zcJ) (T:=zbs) (fun (used,c,lo,len,t,t1,v,v1,v2,v3,v4,v5,xs,xs1,xs2,xs3,xs4,xs5,_,_)=>(used,c,lo,len,t,t1,v,v1,ers xs3,xs4,ers xs5,v2,v3,v4,v5,ers xs,ers xs1,xs2,())) F4
    (fun (used,c,lo,len,t,t1,v,v1,v2,v3,v4,v5,xs,xs1,xs2,xs3,xs4,xs5,np,_)=>by
      simp only[zcJ,zbs,zgN,zdY,zA1,zc6,zhj,ziJ,List.getElem?_map,zDw,zDx,zDy,zKu (np:=np),Option.map_some,Sum.map_inl,Sum.map_inr,List.map_nil]) (used,c,lo,len,t,t1,v,v1,v2,v3,v4,v5,xs,xs1,xs2,xs3,xs4,xs5,np,())
end Go.Di
namespace Go.Di
theorem zNP (l:List TRt) (e:TRt):List.map TRt.er l++[TRt.er e]=List.map TRt.er (l++[e]):=by simp
theorem zP9 (l:List TRt) (r:Rt) (a b:Nat):List.map TRt.er l++[r]=List.map TRt.er (l++[⟨r.neg,⟨a,r.mag⟩,⟨b,r.den⟩⟩]):=by simp[zLQ]
theorem zgS {α β:Type} {o:Option α} {f g:α→Option β} (h:∀ a,f a=g a):o.bind f=o.bind g:=by rw[funext h]
theorem zy2 {α:Type} {b:Bool} {x x' y y':α} (h1:b=true→x=x') (h2:b=false→y=y'):cond b x y=cond b x' y':=by cases b with
  | true=>exact h1 rfl
  | false=>exact h2 rfl
abbrev F0:(Bool × Int × Int × (List TRt) × (List Int) × (List TRt) × Nat × Unit) ⊕ (Int × Int × Int × Int × (List TRt) × (List Int) × (List TRt) × (List TRt) × (List Int) × (List TRt) × Nat × Unit)→(Bool × Int × Int × (List Rt) × (List Int) × (List Rt) × Unit) ⊕ (Int × Int × (List Rt) × (List Int) × (List Rt) × Int × Int × (List Rt) × (List Int) × (List Rt) × Unit) :=
  Sum.map (fun (b,v,v1,xs,xs1,xs2,_,_)=>(b,v,v1,ers xs,xs1,ers xs2,())) fun (v,v1,v2,v3,xs,xs1,xs2,xs3,xs4,xs5,_,_)=>(v,v1,ers xs3,xs4,ers xs5,v2,v3,ers xs,xs1,ers xs2,())
theorem red0_er (used c v v1 v2 v3 v4 v5:Int) (xs:List TRt) (xs1:List Int) (xs2:List TRt) (xs3:List TRt) (xs4:List Int) (xs5:List TRt) (np:Nat) :
    zeO used c v v1 (ers xs3) xs4 (ers xs5) v2 v3 v4 v5 (ers xs) xs1 (ers xs2)=(zdT used c v v1 v2 v3 v4 v5 xs xs1 xs2 xs3 xs4 xs5 np).map F0 :=
  whileO_map (S:=zaP) (T:=zbw) (fun (used,c,v,v1,v2,v3,v4,v5,xs,xs1,xs2,xs3,xs4,xs5,_,_)=>(used,c,v,v1,ers xs3,xs4,ers xs5,v2,v3,v4,v5,ers xs,xs1,ers xs2,())) F0
    (fun (used,c,v,v1,v2,v3,v4,v5,xs,xs1,xs2,xs3,xs4,xs5,np,_)=>by
      simp only[zaP,zbw,zgN,zdY,zKw (np:=np),zc6,Option.map_some,Sum.map_inl,Sum.map_inr]
      refine zy2 (fun _=>zy2 (fun _=>zgS fun ⟨used1,c1,p,v6,v7,v8,v9,v10,v11,xs6,xs7,xs8,xs9,xs10,xs11,np1,_⟩=>?_) fun _=>rfl) fun _=>rfl
      refine zy2 (fun _=>rfl) fun _=>zy2 (fun _=>?_) fun _=>?_
      · refine zgS fun r=>?_
        simp only[List.length_map,zP9 xs8 r np1 (np1+1),zA1,zc6,zKv (np:=np1+2)]
        refine zgS fun _=>zgS fun _=>zgS fun _=>zgS fun ⟨used2,c2,v12,v13,v14,v15,v16,v17,xs12,xs13,xs14,xs15,xs16,xs17,np2,_⟩=>?_
        simp only[zhj,ziJ,List.getElem?_map,zc6,zNP,zDw,zDx,zDy,zA8 (np:=np2)]
        refine zgS fun _=>zgS fun _=>zgS fun e=>zgS fun _=>zgS fun ⟨used3,c3,lo,len,v18,v19,v20,v21,v22,v23,xs18,xs19,xs20,xs21,xs22,xs23,np3,_⟩=>?_
        simp only[zA7 (np:=np3),zc6]
        refine zgS fun r1=>zy2 (fun _=>rfl) fun _=>zgS fun r2=>?_
        cases r2 with
        | inl z=>rfl
        | inr z =>
          obtain ⟨used4,c4,v26,v27,v28,v29,v30,v31,xs27,xs28,xs29,xs30,xs31,xs32,np5,_⟩:=z
          show (zaj _).bind _=((zaj _).bind _).map _
          rw[zdY]; rfl
      · simp only[zA1,zhj,ziJ,List.getElem?_map,zc6,zNP,zDw,zDx,zDy,List.length_map,zA8 (np:=np1)]
        refine zgS fun _=>zgS fun _=>zgS fun e=>zgS fun _=>zgS fun ⟨used3,c3,lo,len,v18,v19,v20,v21,v22,v23,xs18,xs19,xs20,xs21,xs22,xs23,np3,_⟩=>?_
        simp only[zA7 (np:=np3),zc6]
        refine zgS fun r1=>zy2 (fun _=>rfl) fun _=>zgS fun r2=>?_
        cases r2 with
        | inl z=>rfl
        | inr z =>
          obtain ⟨used4,c4,v26,v27,v28,v29,v30,v31,xs27,xs28,xs29,xs30,xs31,xs32,np5,_⟩:=z
          show (zaj _).bind _=((zaj _).bind _).map _
          rw[zdY]; rfl) (used,c,v,v1,v2,v3,v4,v5,xs,xs1,xs2,xs3,xs4,xs5,np,())
/-! ### The numbers stay distinct -/
def Idn (n:Nat) (l:List TRt):Prop:=(zhH l).Nodup∧∀ i∈zhH l,i < n
theorem Idn.mono {n m:Nat} {l:List TRt} (h:Idn n l) (hm:n≤m):Idn m l:=⟨h.1,fun i hi=>Nat.lt_of_lt_of_le (h.2 i hi) hm⟩
theorem zpr:∀ (l:List TRt) (i:Nat) (e:TRt) (x:Nat),x∈zhH (l.set i e)→x∈zhH l∨x=e.mag.id∨x=e.den.id
  | [],_,_,x,h => .inl h
  | r :: l,0,e,x,h=>by
    simp only[List.set_cons_zero,zhH,List.mem_cons] at h ⊢
    rcases h with h | h | h
    · exact .inr (.inl h)
    · exact .inr (.inr h)
    · exact .inl (.inr (.inr h))
  | r :: l,i+1,e,x,h=>by
    simp only[List.set_cons_succ,zhH,List.mem_cons] at h ⊢
    rcases h with h | h | h
    · exact .inl (.inl h)
    · exact .inl (.inr (.inl h))
    · rcases zpr l i e x h with h | h
      · exact .inl (.inr (.inr h))
      · exact .inr h
theorem idn_set {n m:Nat} {l:List TRt} {e:TRt} (h:Idn n l) (i:Nat) (ha:n≤e.mag.id) (hb:n≤e.den.id) (hab:e.mag.id≠e.den.id) (ham:e.mag.id < m) (hbm:e.den.id < m) (hnm:n≤m):Idn m (l.set i e):=by
  refine ⟨?_,fun x hx=>?_⟩
  · obtain ⟨h1,h2⟩:=h
    induction l generalizing i with
    | nil=>exact List.nodup_nil
    | cons r l ih =>
      simp only[zhH,List.nodup_cons,List.mem_cons,not_or] at h1 h2
      cases i with
      | zero =>
        simp only[List.set_cons_zero,zhH,List.nodup_cons,List.mem_cons,not_or]
        have hl:∀ x∈zhH l,x < n:=fun x hx=>h2 x (.inr (.inr hx))
        exact ⟨⟨hab,fun hx=>by have:=hl _ hx; omega⟩,fun hx=>by have:=hl _ hx; omega,h1.2.2⟩
      | succ i =>
        simp only[List.set_cons_succ,zhH,List.nodup_cons,List.mem_cons,not_or]
        have k:=ih i h1.2.2 (fun x hx=>h2 x (.inr (.inr hx)))
        have out:∀ x,x < n→x ∉ zhH l→x ∉ zhH (l.set i e):=fun x hx hn hh=>by
          rcases zpr l i e x hh with h | h | h
          · exact hn h
          · omega
          · omega
        exact ⟨⟨h1.1.1,out _ (h2 _ (.inl rfl)) h1.1.2⟩,out _ (h2 _ (.inr (.inl rfl))) h1.2.1,k⟩
  · rcases zpr l i e x hx with h' | h' | h'
    · exact Nat.lt_of_lt_of_le (h.2 x h') hnm
    · omega
    · omega
theorem zrl {l m:List TRt} (h:l.Perm m):(zhH l).Perm (zhH m):=by
  induction h with
  | nil=>exact .nil
  | cons r _ ih=>exact (ih.cons _).cons _
  | swap r s l =>
    simp only[zhH]
    exact ((List.perm_append_comm (l₁:=[s.mag.id,s.den.id]) (l₂:=[r.mag.id,r.den.id])).append_right (zhH l))
  | trans _ _ ih1 ih2=>exact ih1.trans ih2
theorem swap_perm {α:Type} {l:List α} {i j:Nat} {a b:α} (hi:l[i]? = some a) (hj:l[j]? = some b):((l.set i b).set j a).Perm l:=by
  obtain ⟨h1,h1'⟩:=List.getElem?_eq_some_iff.1 hi
  obtain ⟨h2,h2'⟩:=List.getElem?_eq_some_iff.1 hj
  rw[← h1',← h2']
  exact List.set_set_perm h1 h2
theorem zF5 {n:Nat} {l m:List TRt} (h:Idn n l) (hp:m.Perm l):Idn n m:=⟨(zrl hp).nodup_iff.2 h.1,fun i hi=>h.2 i ((zrl hp).mem_iff.1 hi)⟩
theorem zmn:∀ (n:Nat) (l:List Rt),(zhH (zl4 n l)).Nodup∧∀ i∈zhH (zl4 n l),n≤i∧i < n+2 * l.length
  | _,[]=>⟨List.nodup_nil,fun i h=>by cases h⟩
  | n, r :: l=>by
    obtain ⟨h1,h2⟩:=zmn (n+2) l
    simp only[zl4,zhH,List.nodup_cons,List.mem_cons,not_or,List.length_cons]
    refine ⟨⟨⟨by omega,fun h=>?_⟩,fun h=>?_,h1⟩,fun i hi=>?_⟩
    · have:=h2 _ h; omega
    · have:=h2 _ h; omega
    · rcases hi with rfl | rfl | hi
      · omega
      · omega
      · have:=h2 _ hi; omega
theorem zoc:∀ {l:List Nat},zdU l=true↔l.Nodup
  | []=>by simp[zdU]
  | a :: l=>by
    unfold zdU
    rw[List.nodup_cons]
    split
    · rename_i h
      constructor
      · intro e; cases e
      · intro e; exact absurd (zaC.1 h) e.1
    · rename_i h
      rw[zoc]
      constructor
      · intro e; exact ⟨(fun hm=>by rw[zaC.2 hm] at h; cases h),e⟩
      · intro e; exact e.2
end Go.Di
namespace Go.Di
theorem zbn {α β:Type} {o:Option α} {f:α→Option β} {b:β} (h:o.bind f=some b):∃ a,o=some a∧f a=some b:=by
  cases o with
  | none=>cases h
  | some a=>exact ⟨a,rfl,h⟩
theorem condS {α:Type} {b:Bool} {x y:Option α} {z:α} (h:cond b x y=some z):(b=true∧x=some z)∨(b=false∧y=some z):=by
  cases b with
  | true=>exact .inl ⟨rfl,h⟩
  | false=>exact .inr ⟨rfl,h⟩
theorem whileO_keeps {τ θ:Type} {T:τ→Option (τ ⊕ θ)} (I:τ→Prop) (Q:θ→Prop) (h:∀ t r,I t→T t=some r→Sum.elim I Q r) {t:τ} {y:θ} (hi:I t) (hy:whileO T t=some y):Q y :=
  zs9 I Q (fun t t' hi ht=>h t (.inl t') hi ht) (fun t y hi ht=>h t (.inr y) hi ht) hi hy
theorem zA4 {r c i:Int} {l x0:List TRt} {w:Nat × Nat} (h:zaJ ⟨r,c,l⟩ i=some (w,x0)):x0=l:=by
  unfold zaJ at h
  obtain ⟨_,_,h⟩:=zbn h
  cases h; rfl
def Q5:Int × Int × Nat × Nat × Nat × Nat × Int × Int × Int × Int × Int × Int × Int × Int × (List TRt) × (List TRt) × (List Int) × (List TRt) × (List Int) × (List TRt) × Nat × Unit→Prop:=fun (_,_,_,_,_,_,_,_,_,_,_,_,_,_,xs,_,_,_,_,_,np,_)=>Idn np xs
def Q3:Int × Int × Nat × Nat × Int × Int × Int × Int × Int × Int × (List TRt) × (List TRt) × (List Int) × (List TRt) × (List Int) × (List TRt) × Nat × Unit→Prop:=fun (_,_,_,_,_,_,_,_,_,_,xs,_,_,_,_,_,np,_)=>Idn np xs
def Q2:Int × Int × Int × Int × Int × Int × Int × Int × (List TRt) × (List TRt) × (List Int) × (List TRt) × (List Int) × (List TRt) × Nat × Unit→Prop:=fun (_,_,_,_,_,_,_,_,xs,_,_,_,_,_,np,_)=>Idn np xs
def Q1:Int × Int × Int × Int × Int × Int × Int × Int × Int × (List TRt) × (List Int) × (List TRt) × (List TRt) × (List Int) × (List TRt) × Nat × Unit→Prop:=fun (_,_,_,_,_,_,_,_,_,xs,_,_,_,_,_,np,_)=>Idn np xs
def Q0:Int × Int × Int × Int × (List TRt) × (List Int) × (List TRt) × (List TRt) × (List Int) × (List TRt) × Nat × Unit→Prop:=fun (_,_,_,_,xs,_,_,_,_,_,np,_)=>Idn np xs
def QE:Bool × Int × Int × (List TRt) × (List Int) × (List TRt) × Nat × Unit→Prop:=fun (_,_,_,xs,_,_,_,_)=>(zhH xs).Nodup
def J5:Int × Int × Nat × Nat × Nat × Nat × Int × Int × Int × Int × Int × Int × Int × Int × Int × Int × Bool × Tk × Tk × (List TRt) × (List TRt) × (List Int) × (List TRt) × (List Int) × (List TRt) × Nat × Unit→Prop:=fun (_,_,_,_,_,_,_,_,_,_,_,_,_,_,_,_,_,_,_,xs,_,_,_,_,_,np,_)=>Idn np xs
def J4:Int × Int × Nat × Nat × Int × Int × Int × Int × Int × Int × Int × Int × (List TRt) × (List TRt) × (List Int) × (List TRt) × (List Int) × (List TRt) × Nat × Unit→Prop:=fun (_,_,_,_,_,_,_,_,_,_,_,_,xs,_,_,_,_,_,np,_)=>Idn np xs
def J3:Int × Int × Nat × Nat × Int × Int × Int × Int × Int × Int × Int × Int × Bool × Tk × Tk × (List TRt) × (List TRt) × (List Int) × (List TRt) × (List Int) × (List TRt) × Nat × Unit→Prop:=fun (_,_,_,_,_,_,_,_,_,_,_,_,_,_,_,xs,_,_,_,_,_,np,_)=>Idn np xs
def J2:Int × Int × Nat × Nat × Nat × Nat × Int × Int × Int × Int × Int × Int × Int × Int × (List TRt) × (List TRt) × (List Int) × (List TRt) × (List Int) × (List TRt) × Nat × Unit→Prop:=fun (_,_,_,_,_,_,_,_,_,_,_,_,_,_,xs,_,_,_,_,_,np,_)=>Idn np xs
def J1:Int × Int × Int × Int × Int × Int × Int × Int × Int × (List TRt) × (List Int) × (List TRt) × (List TRt) × (List Int) × (List TRt) × Nat × Unit→Prop:=fun (_,_,_,_,_,_,_,_,_,xs,_,_,_,_,_,np,_)=>Idn np xs
def J0:Int × Int × Int × Int × Int × Int × Int × Int × (List TRt) × (List Int) × (List TRt) × (List TRt) × (List Int) × (List TRt) × Nat × Unit→Prop:=fun (_,_,_,_,_,_,_,_,xs,_,_,_,_,_,np,_)=>Idn np xs
theorem zFg {used c:Int} {lo len lo1 len1:Nat} {t t1 t2 t3 v v1 v2 v3 v4 v5:Int} {v6:Bool} {v7 v8:Tk} {xs xs1:List TRt} {xs2:List Int} {xs3:List TRt} {xs4:List Int} {xs5:List TRt} {np:Nat} (hi:Idn np xs)
    {y} (h:ze1 used c lo len lo1 len1 t t1 t2 t3 v v1 v2 v3 v4 v5 v6 v7 v8 xs xs1 xs2 xs3 xs4 xs5 np=some y):Q5 y :=
  whileO_keeps (T:=zbr) (t:=(used,c,lo,len,lo1,len1,t,t1,t2,t3,v,v1,v2,v3,v4,v5,v6,v7,v8,xs,xs1,xs2,xs3,xs4,xs5,np,())) J5 Q5 (fun (used,c,lo,len,lo1,len1,t,t1,t2,t3,v,v1,v2,v3,v4,v5,v6,v7,v8,xs,xs1,xs2,xs3,xs4,xs5,np,_) r hi h=>by
    have hi:Idn np xs:=hi
    simp only[zbr] at h
    rcases condS h with ⟨_,h⟩ | ⟨_,h⟩
    · obtain ⟨_,_,h⟩:=zbn h
      obtain ⟨_,_,h⟩:=zbn h
      obtain ⟨_,_,h⟩:=zbn h
      obtain ⟨_,_,h⟩:=zbn h
      obtain ⟨_,_,h⟩:=zbn h
      obtain ⟨_,_,h⟩:=zbn h
      obtain ⟨_,_,h⟩:=zbn h
      cases h
      exact idn_set hi _ (by simp) (by simp) (by simp) (by simp) (by simp) (by simp)
    · cases h; exact hi) hi h
theorem zvG {used c:Int} {lo len:Nat} {t t1 v v1 v2 v3 v4 v5:Int} {v6:Bool} {v7 v8:Tk} {xs xs1:List TRt} {xs2:List Int} {xs3:List TRt} {xs4:List Int} {xs5:List TRt} {np:Nat} (hi:Idn np xs)
    {y} (h:zdS used c lo len t t1 v v1 v2 v3 v4 v5 v6 v7 v8 xs xs1 xs2 xs3 xs4 xs5 np=some y):Q3 y :=
  whileO_keeps (T:=zbt) (t:=(used,c,lo,len,t,t1,v,v1,v2,v3,v4,v5,v6,v7,v8,xs,xs1,xs2,xs3,xs4,xs5,np,())) J3 Q3 (fun (used,c,lo,len,t,t1,v,v1,v2,v3,v4,v5,v6,v7,v8,xs,xs1,xs2,xs3,xs4,xs5,np,_) r hi h=>by
    have hi:Idn np xs:=hi
    simp only[zbt] at h
    rcases condS h with ⟨_,h⟩ | ⟨_,h⟩
    · obtain ⟨_,_,h⟩:=zbn h
      obtain ⟨_,_,h⟩:=zbn h
      obtain ⟨_,_,h⟩:=zbn h
      obtain ⟨_,_,h⟩:=zbn h
      cases h
      exact idn_set hi _ (by simp) (by simp) (by simp) (by simp) (by simp) (by simp)
    · cases h; exact hi) hi h
theorem zFh {used c:Int} {lo len lo1 len1:Nat} {t t1 v v1 v2 v3 v4 v5:Int} {xs xs1:List TRt} {xs2:List Int} {xs3:List TRt} {xs4:List Int} {xs5:List TRt} {np:Nat} (hi:Idn np xs)
    {y} (h:ze2 used c lo len lo1 len1 t t1 v v1 v2 v3 v4 v5 xs xs1 xs2 xs3 xs4 xs5 np=some y):Q2 y :=
  whileO_keeps (T:=zbu) (t:=(used,c,lo,len,lo1,len1,t,t1,v,v1,v2,v3,v4,v5,xs,xs1,xs2,xs3,xs4,xs5,np,())) J2 Q2 (fun (used,c,lo,len,lo1,len1,t,t1,v,v1,v2,v3,v4,v5,xs,xs1,xs2,xs3,xs4,xs5,np,_) r hi h=>by
    have hi:Idn np xs:=hi
    simp only[zbu] at h
    rcases condS h with ⟨_,h⟩ | ⟨_,h⟩
    · obtain ⟨_,_,h⟩:=zbn h
      obtain ⟨e,he,h⟩:=zbn h
      obtain ⟨_,_,h⟩:=zbn h
      obtain ⟨e1,he1,h⟩:=zbn h
      obtain ⟨_,_,h⟩:=zbn h
      obtain ⟨_,_,h⟩:=zbn h
      cases h
      exact zF5 hi (swap_perm he1 he)
    · cases h; exact hi) hi h
theorem zFi {used c p v v1 v2 v3 v4 v5:Int} {xs:List TRt} {xs1:List Int} {xs2:List TRt} {xs3:List TRt} {xs4:List Int} {xs5:List TRt} {np:Nat} (hi:Idn np xs)
    {y} (h:ze3 used c p v v1 v2 v3 v4 v5 xs xs1 xs2 xs3 xs4 xs5 np=some y):Q1 y :=
  whileO_keeps (T:=zbv) (t:=(used,c,p,v,v1,v2,v3,v4,v5,xs,xs1,xs2,xs3,xs4,xs5,np,())) J1 Q1 (fun (used,c,p,v,v1,v2,v3,v4,v5,xs,xs1,xs2,xs3,xs4,xs5,np,_) r hi h=>by
    have hi:Idn np xs:=hi
    simp only[zbv] at h
    rcases condS h with ⟨_,h⟩ | ⟨_,h⟩
    · obtain ⟨_,_,h⟩:=zbn h
      obtain ⟨_,_,h⟩:=zbn h
      rcases condS h with ⟨_,h⟩ | ⟨_,h⟩<;>(cases h; exact hi)
    · cases h; exact hi) hi h
theorem red4_idn {used c:Int} {lo len:Nat} {t t1 v v1 v2 v3 v4 v5:Int} {xs xs1:List TRt} {xs2:List Int} {xs3:List TRt} {xs4:List Int} {xs5:List TRt} {np:Nat} (hi:Idn np xs)
    {y} (h:zdR used c lo len t t1 v v1 v2 v3 v4 v5 xs xs1 xs2 xs3 xs4 xs5 np=some y):Sum.elim QE Q2 y :=
  whileO_keeps (T:=zbs) (t:=(used,c,lo,len,t,t1,v,v1,v2,v3,v4,v5,xs,xs1,xs2,xs3,xs4,xs5,np,())) J4 (Sum.elim QE Q2) (fun (used,c,lo,len,t,t1,v,v1,v2,v3,v4,v5,xs,xs1,xs2,xs3,xs4,xs5,np,_) r hi h=>by
    have hi:Idn np xs:=hi
    simp only[zbs] at h
    rcases condS h with ⟨_,h⟩ | ⟨_,h⟩
    · obtain ⟨⟨w,x0⟩,hr,h⟩:=zbn h
      rw[zA4 hr] at h
      rcases condS h with ⟨_,h⟩ | ⟨_,h⟩
      · cases h; exact hi
      · obtain ⟨_,_,h⟩:=zbn h
        obtain ⟨_,_,h⟩:=zbn h
        obtain ⟨_,_,h⟩:=zbn h
        rcases condS h with ⟨_,h⟩ | ⟨_,h⟩
        · cases h; exact hi
        · obtain ⟨_,_,h⟩:=zbn h
          obtain ⟨_,_,h⟩:=zbn h
          obtain ⟨y,h5,h⟩:=zbn h
          have k:=zFg hi h5
          obtain ⟨_,_,h⟩:=zbn h
          rcases condS h with ⟨_,h⟩ | ⟨_,h⟩
          · cases h; exact List.nodup_nil
          · cases h; exact k
    · cases h; exact hi) hi h
theorem red0_idn {used c v v1 v2 v3 v4 v5:Int} {xs:List TRt} {xs1:List Int} {xs2:List TRt} {xs3:List TRt} {xs4:List Int} {xs5:List TRt} {np:Nat} (hi:Idn np xs)
    {y} (h:zdT used c v v1 v2 v3 v4 v5 xs xs1 xs2 xs3 xs4 xs5 np=some y):Sum.elim QE Q0 y :=
  whileO_keeps (T:=zbw) (t:=(used,c,v,v1,v2,v3,v4,v5,xs,xs1,xs2,xs3,xs4,xs5,np,())) J0 (Sum.elim QE Q0) (fun (used,c,v,v1,v2,v3,v4,v5,xs,xs1,xs2,xs3,xs4,xs5,np,_) r hi h=>by
    have hi:Idn np xs:=hi
    simp only[zbw] at h
    rcases condS h with ⟨_,h⟩ | ⟨_,h⟩
    · rcases condS h with ⟨_,h⟩ | ⟨_,h⟩
      · obtain ⟨⟨used1,c1,p,v6,v7,v8,v9,v10,v11,xs6,xs7,xs8,xs9,xs10,xs11,np1,_⟩,h1,h⟩:=zbn h
        have k1:Idn np1 xs6:=zFi hi h1
        rcases condS h with ⟨_,h⟩ | ⟨_,h⟩
        · cases h; exact k1
        · rcases condS h with ⟨_,h⟩ | ⟨_,h⟩
          · obtain ⟨_,_,h⟩:=zbn h
            obtain ⟨_,_,h⟩:=zbn h
            obtain ⟨⟨w,x0⟩,hr,h⟩:=zbn h
            rw[zA4 hr] at h
            obtain ⟨⟨w',x0'⟩,hr,h⟩:=zbn h
            rw[zA4 hr] at h
            obtain ⟨⟨used2,c2,v12,v13,v14,v15,v16,v17,xs12,xs13,xs14,xs15,xs16,xs17,np2,_⟩,h2,h⟩:=zbn h
            have k2:Idn np2 xs12:=zFh (k1.mono (Nat.le_add_right np1 2)) h2
            obtain ⟨⟨w3,x03⟩,hr,h⟩:=zbn h
            rw[zA4 hr] at h
            obtain ⟨_,_,h⟩:=zbn h
            obtain ⟨_,_,h⟩:=zbn h
            obtain ⟨_,_,h⟩:=zbn h
            obtain ⟨⟨used3,c3,lo,len,v18,v19,v20,v21,v22,v23,xs18,xs19,xs20,xs21,xs22,xs23,np3,_⟩,h3,h⟩:=zbn h
            have k3:Idn np3 xs18:=zvG k2 h3
            obtain ⟨_,_,h⟩:=zbn h
            rcases condS h with ⟨_,h⟩ | ⟨_,h⟩
            · cases h; exact List.nodup_nil
            · obtain ⟨r2,h4,h⟩:=zbn h
              have k4:=red4_idn k3 h4
              cases r2 with
              | inl z=>cases h; exact k4
              | inr z =>
                obtain ⟨used4,c4,v26,v27,v28,v29,v30,v31,xs27,xs28,xs29,xs30,xs31,xs32,np5,_⟩:=z
                obtain ⟨_,_,h⟩:=zbn h
                cases h; exact k4
          · obtain ⟨⟨w3,x03⟩,hr,h⟩:=zbn h
            rw[zA4 hr] at h
            obtain ⟨_,_,h⟩:=zbn h
            obtain ⟨_,_,h⟩:=zbn h
            obtain ⟨_,_,h⟩:=zbn h
            obtain ⟨⟨used3,c3,lo,len,v18,v19,v20,v21,v22,v23,xs18,xs19,xs20,xs21,xs22,xs23,np3,_⟩,h3,h⟩:=zbn h
            have k3:Idn np3 xs18:=zvG k1 h3
            obtain ⟨_,_,h⟩:=zbn h
            rcases condS h with ⟨_,h⟩ | ⟨_,h⟩
            · cases h; exact List.nodup_nil
            · obtain ⟨r2,h4,h⟩:=zbn h
              have k4:=red4_idn k3 h4
              cases r2 with
              | inl z=>cases h; exact k4
              | inr z =>
                obtain ⟨used4,c4,v26,v27,v28,v29,v30,v31,xs27,xs28,xs29,xs30,xs31,xs32,np5,_⟩:=z
                obtain ⟨_,_,h⟩:=zbn h
                cases h; exact k4
      · cases h; exact hi
    · cases h; exact hi) hi h
theorem znb {l:List TRt} (h:(zhH l).Nodup):zaj (zdU (zhH l++([]:List Nat)))=some ():=by
  rw[List.append_nil,zoc.2 h]; rfl
theorem zpa {m:Mx} {R C:Int} {cs:List Rt} {pv:List Int} {fs:List Rt} {b:Bool} (h:zct m=some (⟨R,C,cs,pv,fs⟩,b)):zdx m=some (⟨R,C,cs,pv⟩,b):=by
  unfold zct at h
  obtain ⟨r,hr,h⟩:=zbn h
  obtain ⟨y,hy,h⟩:=zbn h
  have e:=red0_er 0 0 0 0 m.rows m.cols m.rows m.cols (zl4 0 r) [] [] [] [] [] (0+2 * r.length)
  rw[show ers (zl4 0 r)=r from ztd 0 r,show ers ([]:List TRt)=[] from rfl,hy] at e
  cases hz:zdT 0 0 0 0 m.rows m.cols m.rows m.cols (zl4 0 r) [] [] [] [] [] (0+2 * r.length) with
  | none=>rw[hz] at e; cases e
  | some z =>
    rw[hz] at e
    have e:=Option.some.inj e
    subst e
    have hk:=red0_idn ⟨(zmn 0 r).1,fun i hi=>((zmn 0 r).2 i hi).2⟩ hz
    unfold zdx
    rw[hr,Option.bind_some]
    rw[hz,Option.bind_some]
    cases z with
    | inl z =>
      obtain ⟨t,v,v1,xs,xs1,_,_,_⟩:=z
      simp only[]
      rw[znb hk]
      cases h; rfl
    | inr z =>
      obtain ⟨_,_,v4,v5,xs3,xs4,_,_,_,_,_,_⟩:=z
      simp only[]
      rw[znb hk.1]
      cases h; rfl
end Go.Di
namespace Go.Di
end Go.Di
namespace Go.Di
theorem zH2 {m R:Mx} {pv:List Int} {b:Bool} (h:zeM m=some (R,pv,b)):zeL m=some (R,pv,b):=by
  unfold zeM at h
  unfold zeL
  obtain ⟨r,hr,h⟩:=zbn h
  rw[hr,Option.bind_some]
  rcases condS h with ⟨c,h⟩ | ⟨c,h⟩
  · rw[c,cond_true]; exact h
  · rw[c,cond_false]
    obtain ⟨⟨⟨R1,C1,cs,pv1,fs⟩,b1⟩,h1,h⟩:=zbn h
    rw[zpa h1,Option.bind_some]
    exact h
theorem zx1 {m:Mx} {n:Int} (h:zfG m=some n):zcV m=some n:=by
  unfold zfG at h
  unfold zcV
  obtain ⟨⟨R,pv,b⟩,hr,h⟩:=zbn h
  rw[zH2 hr,Option.bind_some]
  exact h
end Go.Di
namespace Go.Di
def rv (o:Option Rat):Rat:=o.getD 0
section
variable {r c k:Nat}
theorem zgA {s s':ES} (h:EInv r c k s) (hk:k < c) (e:zhP r c k s=some s') :
    (s'=s∧∀ i,s.pv.length≤i→i < r→s.g i k=some 0) ∨
    ∃ p,s.pv.length≤p∧p < r∧s.pv.length < r∧s.g p k≠some 0∧(∀ i,s.pv.length≤i→i < p→s.g i k=some 0)∧(∀ i j,i < r→j < c→(dvd (swp s.g p s.pv.length) s.pv.length k i j).isSome=true) ∧
      (∀ i j,i < r→j < c→(clr (dvd (swp s.g p s.pv.length) s.pv.length k) s.pv.length k i j).isSome=true) ∧
      s'=⟨clr (dvd (swp s.g p s.pv.length) s.pv.length k) s.pv.length k,s.pv++[(k:Int)],(s.fs++if p≠s.pv.length then [some (-1)] else [])++[swp s.g p s.pv.length s.pv.length k]⟩:=by
  unfold zhP at e
  split at e
  · rename_i hur
    obtain ⟨pl,ph⟩:=zkR s.g k (r - s.pv.length) s.pv.length
    have hz:=zmQ s.g k (r - s.pv.length) s.pv.length
    have hne:=zmR s.g k (r - s.pv.length) s.pv.length
    generalize zhM s.g k (r - s.pv.length) s.pv.length=p at *
    simp only at e
    split at e
    · rename_i hpr
      injection e with e
      exact .inl ⟨e.symm,fun i h1 h2=>hz i h1 (by omega)⟩
    · rename_i hpr
      cases hall:(znU r c (dvd (swp s.g p s.pv.length) s.pv.length k) && znU r c (clr (dvd (swp s.g p s.pv.length) s.pv.length k) s.pv.length k)) with
      | false=>rw[hall] at e; cases e
      | true =>
        rw[hall] at e
        injection e with e
        rw[Bool.and_eq_true] at hall
        exact .inr ⟨p,pl,by omega,hur,hne (by omega),hz,zcm.1 hall.1,zcm.1 hall.2,e.symm⟩
  · injection e with e
    exact .inl ⟨e.symm,fun i h1 h2=>by omega⟩
/-! ### The reduced form -/
def piv (s:ES) (t:Nat):Nat:=((s.pv[t]?).getD 0).toNat
structure RInv (r c k:Nat) (s:ES):Prop where
  val:∀ t,t < s.pv.length→s.pv[t]? = some ((piv s t:Nat):Int)
  lt:∀ t,t < s.pv.length→piv s t < k
  asc:∀ t t',t < t'→t' < s.pv.length→piv s t < piv s t'
  unit:∀ t i,t < s.pv.length→i < r→s.g i (piv s t)=if i=t then some 1 else some 0
  lead:∀ t j,t < s.pv.length→j < piv s t→s.g t j=some 0
theorem zA5 {s s':ES} (h:EInv r c k s) (hR:RInv r c k s) (hk:k < c) (e:zhP r c k s=some s'):RInv r c (k+1) s':=by
  rcases zgA h hk e with ⟨rfl,_⟩ | ⟨p,h1,h2,h3,h4,h5,h6,h7,rfl⟩
  · exact ⟨hR.val,fun t ht=>by have:=hR.lt t ht; omega,hR.asc,hR.unit,hR.lead⟩
  · have hg1:∀ t,t < s.pv.length→∀ j,swp s.g p s.pv.length t j=s.g t j:=fun t ht j=>by
      unfold swp; rw[if_neg (by omega),if_neg (by omega)]
    have g1:=zma (u:=s.pv.length) h.good h2 h3
    have z1:=zl9 (c:=c) h3 h2 h1 h.zero
    have hpk:swp s.g p s.pv.length s.pv.length k≠some 0:=by
      unfold swp
      split
      · rename_i e; rw[e]; exact h4
      · rw[if_pos rfl]; exact h4
    -- columns of earlier pivots behind the exchange
    have u1:∀ t i,t < s.pv.length→i < r→swp s.g p s.pv.length i (piv s t)=if i=t then some 1 else some 0:=fun t i ht hi=>by
      unfold swp
      split
      · rename_i e; rw[hR.unit t _ ht h3,if_neg (by omega),if_neg (by omega)]
      · split
        · rw[hR.unit t _ ht h2,if_neg (by omega),if_neg (by omega)]
        · exact hR.unit t i ht hi
    have hu:=h3
    generalize swp s.g p s.pv.length=gg at *
    obtain ⟨y,hy⟩:=Option.isSome_iff_exists.1 (g1 s.pv.length k hu hk).2
    have hy0:y≠0:=fun e0=>hpk (by rw[hy,e0])
    have hzu:∀ j,j < k→dvd gg s.pv.length k s.pv.length j=some 0:=fun j hj=>by
      unfold dvd; rw[if_pos rfl,z1 _ j (Nat.le_refl _) hu hj (by omega),hy,zkz hy0]
    have hone:dvd gg s.pv.length k s.pv.length k=some 1:=by unfold dvd; rw[if_pos rfl,hy,zry hy0]
    have dother:∀ i j,i≠s.pv.length→dvd gg s.pv.length k i j=gg i j:=fun i j hi=>by unfold dvd; rw[if_neg hi]
    -- numbers left of column k stay, in rows other than the new one
    have cleft:∀ i j,i < r→i≠s.pv.length→j < k→clr (dvd gg s.pv.length k) s.pv.length k i j=gg i j:=fun i j hi hne hj=>by
      unfold clr
      rw[if_neg hne,dother i k hne,dother i j hne,hzu j hj]
      split
      · rfl
      · obtain ⟨x,hx⟩:=Option.isSome_iff_exists.1 (g1 i k hi hk).2
        rw[hx,zj1,zmw (g1 i j hi (by omega)).1]
    have ccol:∀ i,i < r→clr (dvd gg s.pv.length k) s.pv.length k i k=if i=s.pv.length then some 1 else some 0:=fun i hi=>by
      unfold clr
      by_cases hne:i=s.pv.length
      · rw[if_pos hne,if_pos hne,hone]
      · rw[if_neg hne,if_neg hne,dother i k hne,hone]
        obtain ⟨x,hx⟩:=Option.isSome_iff_exists.1 (g1 i k hi hk).2
        split
        · assumption
        · rw[hx,zvR ((g1 i k hi hk).1 |> fun h=>by rw[hx] at h; exact h),zqq]
    have crow:∀ j,clr (dvd gg s.pv.length k) s.pv.length k s.pv.length j=dvd gg s.pv.length k s.pv.length j:=fun j=>by unfold clr; rw[if_pos rfl]
    have hpold:∀ t,t < s.pv.length→piv ⟨clr (dvd gg s.pv.length k) s.pv.length k,s.pv++[(k:Int)],(s.fs++if p≠s.pv.length then [some (-1)] else [])++[gg s.pv.length k]⟩ t=piv s t:=fun t ht=>by
      unfold piv; simp only; rw[List.getElem?_append_left ht]
    have hpnew:piv ⟨clr (dvd gg s.pv.length k) s.pv.length k,s.pv++[(k:Int)],(s.fs++if p≠s.pv.length then [some (-1)] else [])++[gg s.pv.length k]⟩ s.pv.length=k:=by
      unfold piv; simp only; rw[List.getElem?_append_right (Nat.le_refl _),Nat.sub_self]; simp
    have hlen:(s.pv++[(k:Int)]).length=s.pv.length+1:=by simp
    refine ⟨fun t ht=>?_,fun t ht=>?_,fun t t' htt ht'=>?_,fun t i ht hi=>?_,fun t j ht hj=>?_⟩
    · simp only[hlen] at ht
      by_cases h8:t < s.pv.length
      · rw[hpold t h8]; simp only; rw[List.getElem?_append_left h8]; exact hR.val t h8
      · have:t=s.pv.length:=by omega
        subst this
        rw[hpnew]; simp only; rw[List.getElem?_append_right (Nat.le_refl _),Nat.sub_self]; rfl
    · simp only[hlen] at ht
      by_cases h8:t < s.pv.length
      · rw[hpold t h8]; have:=hR.lt t h8; omega
      · have:t=s.pv.length:=by omega
        subst this
        rw[hpnew]; omega
    · simp only[hlen] at ht'
      rw[hpold t (by omega)]
      by_cases h8:t' < s.pv.length
      · rw[hpold t' h8]; exact hR.asc t t' htt h8
      · have:t'=s.pv.length:=by omega
        subst this
        rw[hpnew]; exact hR.lt t (by omega)
    · simp only[hlen] at ht
      by_cases h8:t < s.pv.length
      · rw[hpold t h8]
        have hlt:=hR.lt t h8
        show clr (dvd gg s.pv.length k) s.pv.length k i (piv s t)=_
        by_cases hne:i=s.pv.length
        · rw[hne,crow,hzu _ hlt,if_neg (by omega)]
        · rw[cleft i _ hi hne hlt]; exact u1 t i h8 hi
      · have:t=s.pv.length:=by omega
        subst this
        rw[hpnew]; exact ccol i hi
    · simp only[hlen] at ht
      by_cases h8:t < s.pv.length
      · rw[hpold t h8] at hj
        have hlt:=hR.lt t h8
        show clr (dvd gg s.pv.length k) s.pv.length k t j=_
        rw[cleft t j (by omega) (by omega) (by omega),hg1 t h8]
        exact hR.lead t j h8 hj
      · have:t=s.pv.length:=by omega
        subst this
        rw[hpnew] at hj
        show clr (dvd gg s.pv.length k) s.pv.length k s.pv.length j=_
        rw[crow,hzu j hj]
theorem zru {g:Nat→Nat→Option Rat} (hg:zdD r c g):∀ {k:Nat} {s:ES},k≤c→elim r c g k=some s→RInv r c k s:=by
  intro k
  induction k with
  | zero =>
    intro s _ e
    injection e with e; subst e
    exact ⟨fun t h=>by simp at h,fun t h=>by simp at h,fun t t' _ h=>by simp at h,fun t i h _=>by simp at h,fun t j h _=>by simp at h⟩
  | succ k ih =>
    intro s hk e
    unfold elim at e
    cases h0:elim r c g k with
    | none=>rw[h0] at e; cases e
    | some s0 =>
      rw[h0] at e
      exact zA5 (ze5 hg (by omega) h0) (ih (by omega) h0) (by omega) e
end
end Go.Di
namespace Go.Di
end Go.Di
namespace Go.Di
def Cur.ok (c:Cur):Prop:=0≤c.i∧c.i≤(c.b.length:Int)∧c.b.length≤1048576
/-! ### Bounds of a fraction's parts -/
def Bd (q:Rat) (n d:Nat):Prop:=q.num.natAbs≤n∧q.den≤d
theorem Bd.mono {q:Rat} {n d m e:Nat} (h:Bd q n d) (h1:n≤m) (h2:d≤e):Bd q m e:=⟨Nat.le_trans h.1 h1,Nat.le_trans h.2 h2⟩
theorem zQe {z:Int} {d:Nat} (hd:d≠0):Bd (mkRat z d) z.natAbs d:=by
  refine ⟨?_,?_⟩
  · rw[zBs z hd]; exact Nat.div_le_self _ _
  · rw[(zko z hd).2]; exact Nat.div_le_self _ _
theorem zN5 (n:Int):Bd (n:Rat) n.natAbs 1:=⟨by rw[Rat.num_intCast]; exact Nat.le_refl _,by rw[Rat.den_intCast]; exact Nat.le_refl _⟩
theorem zN4 {a b:Rat} {n d m e:Nat} (h:Bd a n d) (k:Bd b m e):Bd (a * b) (n * m) (d * e):=by
  rw[← zBp]
  refine (zQe (Nat.mul_ne_zero a.den_nz b.den_nz)).mono ?_ (Nat.mul_le_mul h.2 k.2)
  rw[Int.natAbs_mul]; exact Nat.mul_le_mul h.1 k.1
theorem Bd.fit {q:Rat} {n d:Nat} (h:Bd q n d) (h1:n≤10 ^ 200) (h2:d≤10 ^ 200):Fit q:=by
  have e:((10 ^ 200:Nat):Int) < bp 24:=by decide
  exact ⟨zfb.2 (Int.lt_of_le_of_lt (Int.ofNat_le.2 (Nat.le_trans h.1 h1)) e),zfb.2 (Int.lt_of_le_of_lt (Int.ofNat_le.2 (Nat.le_trans h.2 h2)) e)⟩
end Go.Di
namespace Go.Di
end Go.Di
namespace Go.Di
end Go.Di
namespace Go.Di
/-! ### Marks -/
def wS (s:Sta):Nat:=4+s.x.mag.length+s.x.den.length+s.y.mag.length+s.y.den.length
structure Sfit (l:List Sta):Prop where
  fit:znL Sta.fit l
  few:ws wS l≤1000000000
/-! ### Lists whose first elements are changed -/
/-! ### Copies -/
/-! ### Sums -/
/-! ### Shifted networks -/
/-! ### Moved networks -/
end Go.Di
namespace Go.Di
end Go.Di
namespace Go.Di
/-! ### Vectors drawn from bytes -/
def Small (q:List Rat):Prop:=∀ x∈q,Bd x 20 6
theorem Small.fits {q:List Rat} (h:Small q):Fits q:=fun x hx=>(h x hx).fit (by decide) (by decide)
theorem zCY {q:List Rat} (h:Fits q) (hn:q.length≤20000):znL Rt.fit (q.map rq):=(zKt h hn).fit
theorem zPj {q:List Rat} (h:Fits q) (hn:q.length≤24):zES (q.map rq)=true:=by
  unfold zES
  rw[List.length_map,decide_eq_true hn,zBc h]; rfl
/-! ### Networks drawn from bytes -/
end Go.Di
namespace Go.Di
def Sz (q:Rat) (k:Nat):Prop:=Bd q (10 ^ k) (10 ^ k)
theorem zvt {k m:Nat} (h:k≤m):10 ^ k≤10 ^ m:=Nat.pow_le_pow_right (by omega) h
theorem Sz.mono {q:Rat} {k m:Nat} (h:Sz q k) (hm:k≤m):Sz q m:=Bd.mono h (zvt hm) (zvt hm)
theorem Sz.fit {q:Rat} {k:Nat} (h:Sz q k) (hk:k≤200):Fit q:=Bd.fit h (zvt hk) (zvt hk)
theorem zMP {a b:Rat} {k m:Nat} (h:Sz a k) (h':Sz b m):Sz (a * b) (k+m):=by
  have:=zN4 h h'
  unfold Sz; rw[Nat.pow_add]; exact this
theorem zKe:Sz 0 0:=(zN5 0).mono (by decide) (by decide)
theorem Small.sz {q:List Rat} (h:Small q):∀ x∈q,Sz x 2:=fun x hx=>(h x hx).mono (by decide) (by decide)
def Szs (q:List Rat) (k:Nat):Prop:=∀ x∈q,Sz x k
theorem Szs.fits {q:List Rat} {k:Nat} (h:Szs q k) (hk:k≤200):Fits q:=fun x hx=>(h x hx).fit hk
theorem Szs.get {q:List Rat} {k:Nat} (h:Szs q k) (i:Nat):Sz ((q[i]?).getD 0) k:=by
  by_cases hi:i < q.length
  · rw[List.getElem?_eq_getElem hi]; exact h _ (List.getElem_mem hi)
  · rw[List.getElem?_eq_none (by omega)]; exact zKe.mono (by omega)
/-! ### Inner products that fit -/
/-! ### Products that fit -/
end Go.Di
namespace Go.Di
/-! ### Numbers that stay small enough -/
def SzG (r c:Nat) (g:Nat→Nat→Option Rat) (K:Nat):Prop:=∀ i j,i < r→j < c→∃ x,g i j=some x∧Sz x K
theorem SzG.mono {r c:Nat} {g:Nat→Nat→Option Rat} {K M:Nat} (h:SzG r c g K) (hm:K≤M):SzG r c g M:=fun i j hi hj=>by
  obtain ⟨x,e,s⟩:=h i j hi hj; exact ⟨x,e,s.mono hm⟩
theorem zKf {x y:Rat} {K M:Nat} (hx:Sz x K) (hy:Sz y M) (hk:K+M≤200):zl6 (some x) (some y)=some (x * y)∧Sz (x * y) (K+M):=by
  have s:=zMP hx hy
  exact ⟨zgt (s.fit hk),s⟩
section
variable {r c k K:Nat}
theorem SzG.all {g:Nat→Nat→Option Rat} (h:SzG r c g K):znU r c g=true:=zcm.2 fun i j hi hj=>by
  obtain ⟨x,e,_⟩:=h i j hi hj; rw[e]; rfl
theorem zBg (l:List (Option Rat)) (o:Option Rat):ztw (l++[o]) (l.length+1)=zl6 (ztw l l.length) o:=by
  have : ∀ n,n≤l.length→ztw (l++[o]) n=ztw l n:=by
    intro n
    induction n with
    | zero=>intro _; rfl
    | succ n ih =>
      intro h
      show zl6 _ _=zl6 _ _
      rw[ih (by omega),List.getElem?_append_left (by omega)]
  show zl6 (ztw (l++[o]) l.length) _=_
  rw[this _ (Nat.le_refl _),List.getElem?_append_right (Nat.le_refl _),Nat.sub_self]; rfl
def zQg (fs:List (Option Rat)) (P:Nat):Prop:=∃ y,ztw fs fs.length=some y∧y≠0∧Sz y P
theorem zQg.app {fs:List (Option Rat)} {P M:Nat} (h:zQg fs P) {x:Rat} (hx:Sz x M) (h0:x≠0) (hk:P+M≤200):zQg (fs++[some x]) (P+M):=by
  obtain ⟨y,e,y0,s⟩:=h
  obtain ⟨e2,s2⟩:=zKf s hx hk
  refine ⟨y * x,?_,fun e0=>?_,s2⟩
  · rw[List.length_append,List.length_singleton,zBg,e,e2]
  · rcases Rat.mul_eq_zero.1 e0 with h | h
    · exact y0 h
    · exact h0 h
/-! ### A matrix in reduced form is reduced to itself -/
structure Red (r c:Nat) (g:Nat→Nat→Option Rat) (L:Nat) (P:Nat→Nat):Prop where
  le:L≤r
  lt:∀ t,t < L→P t < c
  asc:∀ t t',t < t'→t' < L→P t < P t'
  unit:∀ t i,t < L→i < r→g i (P t)=if i=t then some 1 else some 0
  lead:∀ t j,t < L→j < P t→g t j=some 0
  rest:∀ i j,L≤i→i < r→j < c→g i j=some 0
end
end Go.Di
namespace Go.Di
end Go.Di
namespace Go.Di
theorem zxS {r c:Nat} {g:Nat→Nat→Option Rat} {i k:Nat} {x:Int} (hr:r≤1000) (hc:c≤1000) (hi:i < r) (hk:k < c) :
    zc9 ⟨x,c,(grid r c g).map ro⟩ i k=some (ro (g i k)):=by
  unfold zc9
  simp only[znF (show i < 1000 by omega) hc (show k < 1000 by omega),ziF hi hk,Option.bind_some]
def bes (c:Nat) (g h:Nat→Nat→Option Rat):Nat→Nat→Option Rat:=fun i k=>if k < c then g i k else h i (k - c)
section
variable {r c c':Nat} {g h:Nat→Nat→Option Rat}
theorem impl_bes (hr:r≤24) (hc:c≤24) (hc':c'≤24) (x y:Int):zeK ⟨r,c,(grid r c g).map ro⟩ ⟨x,c',(grid r c' h).map ro⟩=some ⟨r,((c+c':Nat):Int),(grid r (c+c') (bes c g h)).map ro⟩:=by
  have ew:IntKind.i64.wrap ((c:Int)+(c':Int))=((c+c':Nat):Int):=by rw[wrap_i64 (by omega) (by omega)]; omega
  unfold zeK zbT zcY
  simp only[ew]
  rw [grid_loop (S:=zaG) (fun i out=>(((c+c':Nat):Int),(r:Int),(c:Int),(grid r c g).map ro,x,(c':Int),(grid r c' h).map ro,(r:Int),i,0,0,[],(r:Int),((c+c':Nat):Int),out,())) (fun i k=>ro (bes c g h i k)) r (c+c') (r:=fun out=>(0,0,[],(r:Int),((c+c':Nat):Int),out,())) (fun i out hi ho=>by
    unfold zaG zcX
    simp only[dlt hi,cond_true]
    rw [app_from (S:=zaF) out (fun k out=>(((c+c':Nat):Int),(r:Int),(c:Int),(grid r c g).map ro,x,(c':Int),(grid r c' h).map ro,(i:Int),(r:Int),(i:Int),((c+c':Nat):Int),k,0,0,[],(r:Int),((c+c':Nat):Int),out,())) (fun k=>ro (bes c g h i k)) (c+c') (r:=fun out=>(((c+c':Nat):Int),(r:Int),(c:Int),(grid r c g).map ro,x,(c':Int),(grid r c' h).map ro,(r:Int),(i:Int),0,0,[],(r:Int),((c+c':Nat):Int),out,())) (fun k xs hk hx=>by
      have hroom:zaj (Nat.ble (xs.length+1) zan)=some ():=zmF (by
        have:i * (c+c')≤24 * 48:=Nat.mul_le_mul (by omega) (by omega)
        omega)
      have hc1:zd1 (i:Int) (k:Int) ⟨r,c,(grid r c g).map ro⟩ ⟨x,c',(grid r c' h).map ro⟩=some (ro (bes c g h i k)):=by
        unfold zd1 bes
        by_cases hkc:k < c
        · simp only[decide_eq_true (show (k:Int) < (c:Int) by omega),cond_true,zxS (show r≤1000 by omega) (show c≤1000 by omega) hi hkc,Option.bind_some,if_pos hkc]
        · have e1:IntKind.i64.wrap ((k:Int) - (c:Int))=((k - c:Nat):Int):=by rw[wrap_i64 (by omega) (by omega)]; omega
          simp only[decide_eq_false (show ¬ (k:Int) < (c:Int) by omega),cond_false,e1,zxS (show r≤1000 by omega) (show c'≤1000 by omega) hi (show k - c < c' by omega),Option.bind_some,if_neg hkc]
      simp only[zaF,dlt hk,cond_true,hc1,Option.bind_some,hroom,zas hk (show c+c'≤1048576 by omega)]) (fun out _=>by simp[zaF])]
    simp only[Option.bind_some,zas hi (show r≤1048576 by omega)]) (fun out _=>by simp[zaG])]
  rw[zpt]; rfl
theorem zkG (hg:zdD r c g) (hh:zdD r c' h):zdD r (c+c') (bes c g h):=fun i k hi hk=>by
  unfold bes
  split
  · rename_i e; exact hg i k hi e
  · exact hh i (k - c) hi (by omega)
/-! ### Columns in front do not hang on those behind -/
theorem zrv {a b:Nat→Nat→Option Rat} {u k n:Nat} (h:∀ i j,i < r→j < n→a i j=b i j) (hu:u < r) (hk:k < n):∀ i j,i < r→j < n→dvd a u k i j=dvd b u k i j:=fun i j hi hj=>by
  unfold dvd; rw[h u j hu hj,h u k hu hk,h i j hi hj]
theorem zrW {a b:Nat→Nat→Option Rat} {u k n:Nat} (h:∀ i j,i < r→j < n→a i j=b i j) (hu:u < r) (hk:k < n):∀ i j,i < r→j < n→clr a u k i j=clr b u k i j:=fun i j hi hj=>by
  unfold clr; rw[h u j hu hj,h i k hi hk,h i j hi hj]
theorem zqp {a b:Nat→Nat→Option Rat} {p u n:Nat} (h:∀ i j,i < r→j < n→a i j=b i j) (hp:p < r) (hu:u < r):∀ i j,i < r→j < n→swp a p u i j=swp b p u i j:=fun i j hi hj=>by
  unfold swp; rw[h u j hu hj,h p j hp hj,h i j hi hj]
theorem zx8 {n k d:Nat} {s s' t t':ES} (h1:EInv r c k s) (h2:EInv r d k t) (hk:k < n) (hc:n≤c) (hd:n≤d) (hpv:s.pv=t.pv) (h:∀ i j,i < r→j < n→s.g i j=t.g i j)
    (e1:zhP r c k s=some s') (e2:zhP r d k t=some t'):s'.pv=t'.pv∧∀ i j,i < r→j < n→s'.g i j=t'.g i j:=by
  rcases zgA h1 (by omega) e1 with ⟨rfl,z1⟩ | ⟨p,a1,a2,a3,a4,a5,_,_,rfl⟩
  · rcases zgA h2 (by omega) e2 with ⟨rfl,_⟩ | ⟨p',b1,b2,b3,b4,b5,_,_,rfl⟩
    · exact ⟨hpv,h⟩
    · exact absurd (by rw[← h p' k b2 hk]; exact z1 p' (by rw[hpv]; exact b1) b2) b4
  · rcases zgA h2 (by omega) e2 with ⟨rfl,z2⟩ | ⟨p',b1,b2,b3,b4,b5,_,_,rfl⟩
    · exact absurd (by rw[h p k a2 hk]; exact z2 p (by rw[← hpv]; exact a1) a2) a4
    · have hpp:p=p':=by
        rcases Nat.lt_trichotomy p p' with hl | hl | hl
        · exact absurd (by rw[h p k a2 hk]; exact b5 p (by rw[← hpv]; exact a1) hl) a4
        · exact hl
        · exact absurd (by rw[← h p' k b2 hk]; exact a5 p' (by rw[hpv]; exact b1) hl) b4
      subst hpp
      rw[hpv] at a3
      refine ⟨by simp only[hpv],fun i j hi hj=>?_⟩
      simp only[hpv]
      exact zrW (zrv (zqp h a2 a3) a3 hk) a3 hk i j hi hj
theorem zou {n d:Nat} {a b:Nat→Nat→Option Rat} (ha:zdD r c a) (hb:zdD r d b) (hc:n≤c) (hd:n≤d) (h:∀ i j,i < r→j < n→a i j=b i j) :
    ∀ k,k≤n→∀ s t,elim r c a k=some s→elim r d b k=some t→s.pv=t.pv∧∀ i j,i < r→j < n→s.g i j=t.g i j:=by
  intro k
  induction k with
  | zero =>
    intro _ s t e1 e2
    injection e1 with e1; injection e2 with e2
    subst e1; subst e2
    exact ⟨rfl,h⟩
  | succ k ih =>
    intro hk s t e1 e2
    unfold elim at e1 e2
    cases h1:elim r c a k with
    | none=>rw[h1] at e1; cases e1
    | some s0 =>
      cases h2:elim r d b k with
      | none=>rw[h2] at e2; cases e2
      | some t0 =>
        rw[h1] at e1; rw[h2] at e2
        obtain ⟨p1,p2⟩:=ih (by omega) s0 t0 h1 h2
        exact zx8 (ze5 ha (by omega) h1) (ze5 hb (by omega) h2) hk hc hd p1 p2 e1 e2
theorem zwc (hg:zdD r c g) {k:Nat} {s:ES} (e:elim r c g k=some s):∀ n s',k+n≤c→elim r c g (k+n)=some s'→∃ l,s'.pv=s.pv++l∧∀ x∈l,(k:Int)≤x
  | 0,s',_,e'=>by rw[Nat.add_zero] at e'; rw[e] at e'; injection e' with e'; exact ⟨[],by rw[← e']; simp,fun x hx=>by cases hx⟩
  | n + 1,s',hn,e'=>by
    have e':elim r c g ((k+n)+1)=some s':=e'
    unfold elim at e'
    cases h0:elim r c g (k+n) with
    | none=>rw[h0] at e'; cases e'
    | some s0 =>
      rw[h0] at e'
      obtain ⟨l,h1,h2⟩:=zwc hg e n s0 (by omega) h0
      rcases zgA (ze5 hg (by omega) h0) (by omega) e' with ⟨rfl,_⟩ | ⟨p,_,_,_,_,_,_,_,rfl⟩
      · exact ⟨l,h1,h2⟩
      · refine ⟨l++[((k+n:Nat):Int)],by simp only[h1,List.append_assoc],fun x hx=>?_⟩
        rcases List.mem_append.1 hx with hx | hx
        · exact h2 x hx
        · rw[List.mem_singleton.1 hx]; omega
end
end Go.Di
namespace Go.Di
end Go.Di
namespace Go.Di
end Go.Di
namespace Go.Di
section
variable {n m:Nat}
end
theorem zGa {n:Nat} {f:ES} (hR:RInv n n n f) (hL:f.pv.length=n):∀ t,t < n→piv f t=t:=by
  have up:∀ t,t < n→t≤piv f t:=by
    intro t
    induction t with
    | zero=>intro _; omega
    | succ t ih=>intro h; have:=hR.asc t (t+1) (by omega) (by omega); have:=ih (by omega); omega
  have down:∀ s t,t+s+1=n→piv f t≤t:=by
    intro s
    induction s with
    | zero=>intro t h; have:=hR.lt t (by omega); omega
    | succ s ih=>intro t h; have:=hR.asc t (t+1) (by omega) (by omega); have:=ih (t+1) (by omega); omega
  intro t ht
  have h1:=up t ht
  have h2:=down (n - t - 1) t (by omega)
  omega
theorem zEA {n m:Nat} (hm:0 < m) {g h:Nat→Nat→Option Rat} (hg:zdD n n g) (hh:zdD n m h) {f F:ES} (e:elim n n g n=some f) (eF:elim n (n+m) (bes n g h) (n+m)=some F) :
    (f.pv.length=n∧(∀ t,t < n→F.pv[t]? = some (t:Int))∧∀ i k,i < n→k < n→F.g i k=if i=k then some 1 else some 0) ∨
    (f.pv.length < n∧F.pv[f.pv.length]? ≠ some ((f.pv.length:Nat):Int)):=by
  have hb:=zkG hg hh
  have hmid:∃ s,elim n (n+m) (bes n g h) n=some s:=by
    cases hs:elim n (n+m) (bes n g h) n with
    | some s=>exact ⟨s,rfl⟩
    | none=>have:=elim_none hs m; rw[eF] at this; cases this
  obtain ⟨s,es⟩:=hmid
  obtain ⟨a1,a2⟩:=zou (n:=n) hg hb (Nat.le_refl n) (Nat.le_add_right n m) (fun i j hi hj=>by unfold bes; rw[if_pos hj]) n (Nat.le_refl n) f s e es
  have hR:=zru hg (Nat.le_refl n) e
  have inv:=ze5 hg (Nat.le_refl n) e
  by_cases hL:f.pv.length=n
  · left
    have hp:=zGa hR hL
    have hstay:=zkx es (by rw[← a1,hL]; omega) m
    rw[eF] at hstay
    injection hstay with hstay
    refine ⟨hL,fun t ht=>?_,fun i k hi hk=>?_⟩
    · rw[hstay,← a1,hR.val t (by omega),hp t ht]
    · rw[hstay,← a2 i k hi hk]
      have:=hR.unit k i (by omega) hi
      rw[hp k hk] at this
      exact this
  · right
    have hl:=inv.used
    refine ⟨by omega,fun e2=>?_⟩
    obtain ⟨l,h1,h2⟩:=zwc hb es m F (Nat.le_refl _) eF
    rw[h1,← a1,List.getElem?_append_right (Nat.le_refl _)] at e2
    have:=h2 _ (List.mem_of_getElem? e2)
    omega
/-! ### Three rows -/
section
variable {a b c d e f g h i:Rat}
end
end Go.Di
namespace Go.Di
section
variable {r c c':Nat} {g h:Nat→Nat→Option Rat}
theorem zFd {xs:List Rt} (hr:r≤24) (hc:c≤200) (hl:xs.length=r * c) {i:Nat} (hi:i < r) (x:Int) :
    zdJ ⟨x,c,xs⟩ i=some (cut xs (i * c) (i * c+c)):=by
  have h:=zqz hr hc hl hi x
  unfold zaI at h
  unfold zdJ
  obtain ⟨_,h1,h⟩:=Option.bind_eq_some_iff.1 h
  simp only[] at h1 ⊢
  rw[h1,Option.bind_some]
  have h2:=congrArg Prod.fst (Option.some.inj h)
  have h3:=congrArg Prod.fst h2
  have h4:=congrArg Prod.snd h2
  simp only[] at h3 h4
  have hp:r * c≤24 * 200:=Nat.mul_le_mul hr hc
  have hq:(i+1) * c≤r * c:=Nat.mul_le_mul_right _ (by omega)
  have hq2:(i+1) * c=i * c+c:=Nat.succ_mul i c
  have e2:(((i+1:Nat):Int) * (c:Int))=(((i+1) * c:Nat):Int):=by simp
  have e3:(IntKind.i64.wrap ((IntKind.i64.wrap ((i:Int)+1)) * (c:Int))).toNat=i * c+c:=by
    rw[zEW (n:=1000) (by omega) (by omega),e2,wrap_i64 (by omega) (by omega),Int.toNat_natCast,hq2]
  rw[h3,e3]
theorem zM4 (hr:r≤24) (hc:c≤200) {i:Nat} (hi:i < r) (x:Int):zdJ ⟨x,c,(grid r c g).map ro⟩ i=some (((List.range c).map (g i)).map ro):=by
  rw[zFd hr hc (by rw[List.length_map,zaU]) hi x,zA2 hi]
theorem zwg (hg:zdD r c g) (hc:c≤200) {i:Nat} (hi:i < r):zdc (((List.range c).map (g i)).map ro)=some (((List.range c).map (g i)).map ro) :=
  spec_copyVec (zts (fun o ho=>by
    obtain ⟨k,hk,rfl⟩:=List.mem_map.1 ho
    exact (hg i k hi (List.mem_range.1 hk)).1) (by simp; omega)).fit
theorem zKs (i:Nat):((List.range c).map (g i)).map ro++((List.range c').map (h i)).map ro=(List.range (c+c')).map fun k=>ro (bes c g h i k):=by
  rw[List.range_add,List.map_append,List.map_map,List.map_map,List.map_map]
  congr 1
  · apply List.map_congr_left
    intro k hk
    have:=List.mem_range.1 hk
    simp[bes,this]
  · apply List.map_congr_left
    intro k hk
    simp[bes,show ¬ c+k < c by omega]
theorem zE4 (hr:r≤24) (hc:c≤24) (hc':c'≤24) (hg:zdD r c g) (hh:zdD r c' h) (x:Int) :
    zc8 ⟨r,c,(grid r c g).map ro⟩ ⟨x,c',(grid r c' h).map ro⟩=some ⟨r,((c+c':Nat):Int),(grid r (c+c') (bes c g h)).map ro⟩:=by
  have ew:IntKind.i64.wrap ((c:Int)+(c':Int))=((c+c':Nat):Int):=by rw[wrap_i64 (by omega) (by omega)]; omega
  unfold zc8 zgp
  simp only[ew]
  rw [grid_loop (S:=zbJ) (fun i out=>(i,(r:Int),(c:Int),(grid r c g).map ro,x,(c':Int),(grid r c' h).map ro,0,0,[],(r:Int),((c+c':Nat):Int),out,())) (fun i k=>ro (bes c g h i k)) r (c+c') (r:=fun out=>(0,0,[],(r:Int),((c+c':Nat):Int),out,())) (fun i out hi ho=>by
    have hro:i * (c+c')≤24 * 48:=Nat.mul_le_mul (by omega) (by omega)
    unfold zbJ
    simp only[dlt hi,cond_true,zM4 hr (show c≤200 by omega) hi,zM4 hr (show c'≤200 by omega) hi,zwg hg (show c≤200 by omega) hi,zwg hh (show c'≤200 by omega) hi,Option.bind_some]
    rw[room (by simp; omega),room (by simp; omega)]
    simp only[Option.bind_some,zas hi (show r≤1048576 by omega),List.append_assoc,zKs]) (fun out _=>by simp[zbJ])]
  rw[zpt]; rfl
end
theorem zC1 {r c n:Nat} {f:ES} (hR:RInv r c c f) (hn:n≤f.pv.length) (h0:0 < n):((List.range n).all fun i=>f.pv[i]? == some (i:Int))=!((f.pv[n - 1]?).getD 0 != ((n - 1:Nat):Int)):=by
  have hv:=hR.val (n - 1) (by omega)
  have up:∀ t,t < n→t≤piv f t:=by
    intro t
    induction t with
    | zero=>intro _; omega
    | succ t ih=>intro h; have:=hR.asc t (t+1) (by omega) (by omega); have:=ih (by omega); omega
  have down:∀ s t,t+s+1=n→piv f t+s≤piv f (n - 1):=by
    intro s
    induction s with
    | zero=>intro t h; rw[show n - 1=t by omega]; omega
    | succ s ih=>intro t h; have:=hR.asc t (t+1) (by omega) (by omega); have:=ih (t+1) (by omega); omega
  rw[Bool.eq_iff_iff,List.all_eq_true,hv,Option.getD_some]
  simp only[Bool.not_eq_true',bne_eq_false_iff_eq,beq_iff_eq,List.mem_range]
  constructor
  · intro h
    have:=h (n - 1) (by omega)
    rw[hv] at this
    exact Option.some.inj this
  · intro h t ht
    rw[hR.val t (by omega)]
    have h1:=up t ht
    have h2:=down (n - t - 1) t (by omega)
    have:piv f t=t:=by omega
    rw[this]
theorem zyQ {f:ES} {n:Nat} (h:f.pv.length < n):((List.range n).all fun i=>f.pv[i]? == some (i:Int))=false:=by
  rw[← Bool.not_eq_true,List.all_eq_true]
  intro h2
  have:=eq_of_beq (h2 f.pv.length (List.mem_range.2 h))
  rw[List.getElem?_eq_none (Nat.le_refl _)] at this
  cases this
theorem zyR {α:Type} {r c n:Nat} {f:ES} (hR:RInv r c c f) (hn:n≤24) (a b:Option α) :
    cond (decide ((f.pv.length:Int) < (n:Int))) b (cond (decide ((n:Int) > 0)) ((idx f.pv (IntKind.i64.wrap ((n:Int) - 1))).bind fun _=>(f.pv[(IntKind.i64.wrap ((n:Int) - 1)).toNat]?).bind fun e=>cond (e != (IntKind.i64.wrap ((n:Int) - 1))) b a) a) =
      cond ((List.range n).all fun i=>f.pv[i]? == some (i:Int)) a b:=by
  by_cases hl:f.pv.length < n
  · rw[decide_eq_true (by omega),cond_true,zyQ hl,cond_false]
  · rw [decide_eq_false (by omega),cond_false]
    by_cases h0:0 < n
    · have ew:IntKind.i64.wrap ((n:Int) - 1)=((n - 1:Nat):Int):=by rw[wrap_i64 (by omega) (by omega)]; omega
      have hg:f.pv[n - 1]? = some (f.pv[n - 1]'(by omega)):=List.getElem?_eq_getElem (by omega)
      rw[decide_eq_true (by omega),cond_true,ew,zaL (by omega),Option.bind_some,Int.toNat_natCast,zC1 hR (by omega) h0,hg,Option.bind_some,Option.getD_some]
      cases (f.pv[n - 1]'(by omega) != ((n - 1:Nat):Int))<;>rfl
    · rw[decide_eq_false (by omega),cond_false,show n=0 by omega]; rfl
theorem zya {n:Nat} (hn:n≤12) {g:Nat→Nat→Option Rat} (hg:zdD n n g) {w:List Rat} (hw:Fits w) (hwl:w.length=n) :
    (∀ f,elim n (n+1) (bes n g (gof w 1)) (n+1)=some f→zcb ⟨n,n,(grid n n g).map ro⟩ (w.map rq)=some (cond ((List.range n).all fun i=>f.pv[i]? == some (i:Int)) (((List.range n).map fun i=>f.g i n).map ro,true) ([],false))) ∧
    (elim n (n+1) (bes n g (gof w 1)) (n+1)=none→zcb ⟨n,n,(grid n n g).map ro⟩ (w.map rq)=some ([],false)):=by
  have hgw:zdD n 1 (gof w 1):=zmo (by omega) hw
  have hb:=zkG hg hgw
  have hvw:w.map rq=(grid n 1 (gof w 1)).map ro:=(zpv (by omega)).symm
  have hp:=zvI (show n≤24 by omega) (show n+1≤24 by omega)
  have hbes:=zE4 (r:=n) (c:=n) (c':=1) (g:=g) (h:=gof w 1) (show n≤24 by omega) (show n≤24 by omega) (by omega) hg hgw n
  rw[← hvw] at hbes
  have hbes':zc8 ⟨n,n,(grid n n g).map ro⟩ ⟨(n:Int),1,w.map rq⟩=some ⟨n,((n+1:Nat):Int),(grid n (n+1) (bes n g (gof w 1))).map ro⟩:=hbes
  unfold zcb
  simp only[hbes',Option.bind_some]
  rcases zte (show n≤24 by omega) (show n+1≤200 by omega) hb with ⟨f,e1,e2⟩ | ⟨e1,lo,pv,fs,l1,l2,e2⟩
  · refine ⟨fun f' e=>?_,fun e=>by rw[e1] at e; cases e⟩
    rw[e1] at e; injection e with e; subst e
    have inv:=ze5 hb (Nat.le_refl _) e1
    have hR:=zru hb (Nat.le_refl _) e1
    simp only[e2,Option.bind_some,zDs (show n≤24 by omega) (show n+1≤200 by omega) inv.good,Bool.not_true,cond_false]
    have hloop:zdQ n 0 n ((n+1:Nat):Int) ((grid n (n+1) f.g).map ro) []=some (((List.range n).map fun i=>f.g i n).map ro,()):=by
      unfold zdQ
      rw [zmv (S:=zbX) (fun i out=>((n:Int),i,(n:Int),((n+1:Nat):Int),(grid n (n+1) f.g).map ro,out,())) (fun i=>ro (f.g i n)) n (r:=fun out=>(out,())) (fun i out hi ho=>by
        simp only[zbX,dlt hi,cond_true,zhC (show n≤1000 by omega) (show n+1≤1000 by omega) hi (show n < n+1 by omega),Option.bind_some,zmF (show out.length≤2000000 by omega),zas hi (show n≤1048576 by omega)]) (fun out _=>by simp[zbX])]
      rw[List.map_map]; rfl
    simp only[hloop,Option.bind_some]
    have:=zyR hR (show n≤24 by omega) (some (((List.range n).map fun i=>f.g i n).map ro,true)) (some ([],false))
    rw[this]
    cases (List.range n).all fun i=>f.pv[i]? == some (i:Int)<;>rfl
  · refine ⟨fun f' e=>(by rw[e1] at e; cases e),fun _=>?_⟩
    simp only[e2,Option.bind_some,zmy (show lo.length≤1048576 by omega),l2,Bool.not_false,cond_true]
end Go.Di
namespace Go.Di
theorem zF4 {l m:List TRt} (h:l.Sublist m):(zhH l).Sublist (zhH m):=by
  induction h with
  | slnil=>exact List.Sublist.slnil
  | cons a _ ih=>exact (ih.cons _).cons _
  | cons_cons a _ ih=>exact (ih.cons_cons _).cons_cons _
theorem zF6 {α:Type} (r c n:Nat) (t:Nat→Nat→α):(grid r n fun i k=>t i (c+k)).Sublist (grid r (c+n) t):=by
  induction r with
  | zero=>exact List.Sublist.slnil
  | succ r ih =>
    rw[zhY,zhY]
    refine ih.append ?_
    rw[List.range_add,List.map_append,List.map_map]
    exact List.sublist_append_right _ _
theorem zv3 {α:Type} (r:Nat) (t:Nat→Nat→α):grid r 1 t=(List.range r).map fun i=>t i 0:=by
  unfold grid
  induction (List.range r) with
  | nil=>rfl
  | cons a l ih=>rw[List.flatMap_cons,List.map_cons,ih]; rfl
def tg (l:List Rt) (c:Nat):Nat→Nat→TRt:=fun i k=>((zl4 0 l)[i * c+k]?).getD ⟨false,⟨0,[]⟩,⟨1,[]⟩⟩
theorem zpi:∀ (n:Nat) (l:List Rt),(zl4 n l).length=l.length
  | _,[]=>rfl
  | n,_ :: l=>by simp[zl4,zpi (n+2) l]
theorem zAf {l:List Rt} {r c:Nat} (h:l.length=r * c):grid r c (tg l c)=zl4 0 l:=zLK (by rw[zpi,h]) _
theorem zPc {r c:Nat} {g:Nat→Nat→Option Rat} {i k:Nat} (hi:i < r) (hk:k < c):TRt.er (tg ((grid r c g).map ro) c i k)=ro (g i k):=by
  have h1:i * c+k < (zl4 0 ((grid r c g).map ro)).length:=by rw[zpi,List.length_map,zaU]; exact zu5 hi hk
  have h2:=zeh (g:=g) hi hk
  have h3:=congrArg (fun l=>l[i * c+k]?) (ztd 0 ((grid r c g).map ro))
  simp only[List.getElem?_map] at h3 h2
  rw[h2] at h3
  unfold tg
  rw[List.getElem?_eq_getElem h1] at h3 ⊢
  exact Option.some.inj h3
theorem zMN {l:List Rt} {r c n:Nat} (h:l.length=r * (c+n)):(zhH (grid r n fun i k=>tg l (c+n) i (c+k))).Nodup :=
  (zF4 (by rw[← zAf h]; exact zF6 r c n _)).nodup (zmn 0 l).1
theorem zN6 {r c:Nat} {t:Nat→Nat→TRt} {i k:Nat} {x:Int} (hr:r≤1000) (hc:c≤1000) (hi:i < r) (hk:k < c) :
    za2 ⟨x,c,grid r c t⟩ i k=some (t i k):=by
  have h1:i * c+k < (grid r c t).length:=by rw[zaU]; exact zu5 hi hk
  have h2:=zpu t hi hk
  rw[List.getElem?_eq_getElem h1] at h2
  unfold za2
  simp only[znF (show i < 1000 by omega) hc (show k < 1000 by omega),zaL h1,Option.bind_some,Option.some.inj h2]
theorem zKA {n:Nat} (hn:n≤24) {g:Nat→Nat→Option Rat} (hg:zdD n n g):zce ⟨n,n,(grid n n g).map ro⟩=some true:=by
  have h1:=zvI hn hn
  obtain ⟨q,hq,e,hl⟩:=all_some (l:=grid n n g) (zcm.2 fun i j hi hj=>(hg i j hi hj).2) (fun o ho=>by obtain ⟨i,j,hi,hj,rfl⟩:=zps ho; exact (hg i j hi hj).1)
  rw[e,zre (m:=⟨n,n,q.map rq⟩) (zCY hq (by rw[hl,zaU]; omega)),zPk hn hn (by rw[hl,zaU]) hq]
theorem solve_tok {n:Nat} (hn:n≤12) {g:Nat→Nat→Option Rat} (hg:zdD n n g) {w:List Rat} (hw:Fits w) (hwl:w.length=n) :
    (∀ f0,elim n n g n=some f0→∀ f,elim n (n+1) (bes n g (gof w 1)) (n+1)=some f→zaH ⟨n,n,(grid n n g).map ro⟩ (w.map rq)=some (cond (f0.pv.length==n) (((List.range n).map fun i=>f.g i n).map ro,true) ([],false))) ∧
    (elim n n g n=none→zaH ⟨n,n,(grid n n g).map ro⟩ (w.map rq)=some ([],false)) ∧
    (elim n (n+1) (bes n g (gof w 1)) (n+1)=none→zaH ⟨n,n,(grid n n g).map ro⟩ (w.map rq)=some ([],false)):=by
  have hgw:zdD n 1 (gof w 1):=zmo (by omega) hw
  have hb:=zkG hg hgw
  have hvw:w.map rq=(grid n 1 (gof w 1)).map ro:=(zpv (by omega)).symm
  have hok:=zKA (show n≤24 by omega) hg
  have hvok:zdA (w.map rq)=some true:=by rw[zoo (zCY hw (by omega)),zPj hw (by omega)]
  have hne:((n:Int) != (n:Int))=false:=by simp
  have h12:decide ((n:Int) > 12)=false:=decide_eq_false (by omega)
  have hlen:(((w.map rq).length:Int) != (n:Int))=false:=by rw[List.length_map,hwl]; simp
  have hbes:=impl_bes (r:=n) (c:=n) (c':=1) (g:=g) (h:=gof w 1) (show n≤24 by omega) (show n≤24 by omega) (by omega) (n:Int) 0
  rw[← hvw] at hbes
  have hbes':zeK ⟨n,n,(grid n n g).map ro⟩ ⟨(n:Int),1,w.map rq⟩=some ⟨n,((n+1:Nat):Int),(grid n (n+1) (bes n g (gof w 1))).map ro⟩:=hbes
  have hmOk:zeM ⟨n,n,(grid n n g).map ro⟩=(zct ⟨n,n,(grid n n g).map ro⟩).bind fun (r0,r1)=>cond (!r1) (some ((⟨0,0,[]⟩:Mx),[],false)) (some ((⟨r0.rows,r0.cols,r0.cells⟩:Mx),r0.pivots,true)):=by
    unfold zeM
    rw[hok,Option.bind_some,Bool.not_true,cond_false]
  have hr0:(∃ f0,elim n n g n=some f0∧zcV ⟨n,n,(grid n n g).map ro⟩=some (f0.pv.length:Int))∨(elim n n g n=none∧zcV ⟨n,n,(grid n n g).map ro⟩=some (-1)):=by
    rcases zm8 (show n≤24 by omega) (show n≤200 by omega) hg with ⟨f',e3,e4⟩ | ⟨e3,e4⟩
    · exact .inl ⟨f',e3,zx1 (by unfold zfG; rw[hmOk,e4]; rfl)⟩
    · exact .inr ⟨e3,zx1 (by unfold zfG; rw[hmOk,e4]; rfl)⟩
  unfold zaH
  simp only[hok,hvok,Option.bind_some,Bool.not_true,cond_false,hne,h12,hlen]
  rcases hr0 with ⟨f0,e0,hrank⟩ | ⟨e0,hrank⟩
  · by_cases hL:f0.pv.length=n
    · have hb1:(((f0.pv.length:Nat):Int) != (n:Int))=false:=by rw[hL]; simp
      have hb2:(f0.pv.length==n)=true:=by rw[hL]; simp
      rcases zm8 (show n≤24 by omega) (show n+1≤200 by omega) hb with ⟨f,e3,e4⟩ | ⟨e3,e4⟩
      · refine ⟨fun f0' e f' e'=>?_,fun e=>(by rw[e0] at e; cases e),fun e=>(by rw[e3] at e; cases e)⟩
        rw[e0] at e; injection e with e; subst e
        rw[e3] at e'; injection e' with e'; subst e'
        have hlc:((grid n (n+1) f.g).map ro).length=n * (n+1):=by rw[List.length_map,zaU]
        have hloop:∀ np,zdf n 0 n n ((grid n n g).map ro) n ((n+1:Nat):Int) (zl4 0 ((grid n (n+1) f.g).map ro)) f.pv [] np=some (grid n 1 fun i k=>tg ((grid n (n+1) f.g).map ro) (n+1) i (n+k),np,()):=fun np=>by
          have hG:(grid n 1 fun i k=>tg ((grid n (n+1) f.g).map ro) (n+1) i (n+k))=(List.range n).map fun i=>tg ((grid n (n+1) f.g).map ro) (n+1) i n:=by
            exact zv3 n _
          rw[hG,← zAf hlc]
          unfold zdf
          rw [zmv (S:=za5) (fun i out=>((n:Int),i,(n:Int),(n:Int),(grid n n g).map ro,(n:Int),((n+1:Nat):Int),grid n (n+1) (tg ((grid n (n+1) f.g).map ro) (n+1)),f.pv,out,np,())) (fun i=>tg ((grid n (n+1) f.g).map ro) (n+1) i n) n (r:=fun out=>(out,np,())) (fun i out hi ho=>by
            simp only[za5,dlt hi,cond_true,zN6 (show n≤1000 by omega) (show n+1≤1000 by omega) hi (show n < n+1 by omega),Option.bind_some,zmF (show out.length≤2000000 by omega),zas hi (show n≤1048576 by omega)]) (fun out _=>by simp[za5])]
        have hT:(grid n 1 fun i k=>tg ((grid n (n+1) f.g).map ro) (n+1) i (n+k)).map TRt.er=((List.range n).map fun i=>f.g i n).map ro:=by
          rw[zpt TRt.er,zaK (h:=fun i k=>ro (f.g i (n+k))) fun i k hi hk=>zPc hi (show n+k < n+1 by omega)]
          rw[zv3,List.map_map]; rfl
        simp only[hrank,hb1,hb2,cond_false,cond_true,hbes',Option.bind_some,zpa e4,Bool.not_true,hloop]
        rw[znb (zMN hlc),Option.bind_some,hT]
      · refine ⟨fun f0' e f' e'=>(by rw[e3] at e'; cases e'),fun e=>(by rw[e0] at e; cases e),fun _=>?_⟩
        simp only[hrank,hb1,cond_false,cond_true,hbes',Option.bind_some,zpa e4,Bool.not_false]
    · have hb1:(((f0.pv.length:Nat):Int) != (n:Int))=true:=by rw[bne_iff_ne]; omega
      have hb2:(f0.pv.length==n)=false:=by simpa using hL
      refine ⟨fun f0' e f' _=>?_,fun e=>(by rw[e0] at e; cases e),fun _=>?_⟩
      · rw[e0] at e; injection e with e; subst e
        simp only[hrank,hb1,hb2,cond_false,cond_true,Option.bind_some]
      · simp only[hrank,hb1,cond_true,Option.bind_some]
  · have hb1:((-1:Int) != (n:Int))=true:=by rw[bne_iff_ne]; omega
    refine ⟨fun f0' e=>(by rw[e0] at e; cases e),fun _=>?_,fun _=>?_⟩<;>simp only[hrank,hb1,cond_true,Option.bind_some]
end Go.Di
namespace Go.Di
end Go.Di
namespace Go.Di
section
variable {r n d:Nat}
theorem zn8 {a b:Nat→Nat→Option Rat} {k:Nat} (hk:k < n) (h:∀ i j,i < r→j < n→a i j=b i j):∀ s i,i+s≤r→zhM a k s i=zhM b k s i
  | 0,_,_=>rfl
  | s+1,i,hi=>by
    unfold zhM
    rw[h i k (by omega) hk,zn8 hk h s (i+1) (by omega)]
theorem elim_front {a b:Nat→Nat→Option Rat} (ha:zdD r n a) (hb:zdD r d b) (hd:n≤d) (h:∀ i j,i < r→j < n→a i j=b i j):∀ k,k≤n→elim r n a k=none→elim r d b k=none:=by
  intro k
  induction k with
  | zero=>intro _ e; cases e
  | succ k ih =>
    intro hk e
    unfold elim at e ⊢
    cases h1:elim r n a k with
    | none=>rw[ih (by omega) h1]; rfl
    | some s =>
      cases h2:elim r d b k with
      | none=>rfl
      | some t =>
        rw[h1,Option.bind_some] at e
        rw[Option.bind_some]
        obtain ⟨p1,p2⟩:=zou ha hb (Nat.le_refl n) hd h k (by omega) s t h1 h2
        have inv:=ze5 ha (by omega) h1
        unfold zhP at e ⊢
        by_cases hu:s.pv.length < r
        · rw [if_pos hu] at e
          rw[if_pos (by rw[← p1]; exact hu)]
          simp only at e ⊢
          have hp:zhM s.g k (r - s.pv.length) s.pv.length=zhM t.g k (r - t.pv.length) t.pv.length:=by
            rw[← p1]; exact zn8 (by omega) p2 _ _ (by omega)
          rw[← hp]
          have hple:=(zkR s.g k (r - s.pv.length) s.pv.length).2
          generalize zhM s.g k (r - s.pv.length) s.pv.length=p at e hple ⊢
          by_cases hpr:p=r
          · rw[if_pos hpr] at e; cases e
          · rw [if_neg hpr] at e ⊢
            have hpl:p < r:=by omega
            have s1:=zqp p2 hpl hu
            have s2:=zrv s1 hu (show k < n by omega)
            have s3:=zrW s2 hu (show k < n by omega)
            rw[← p1]
            cases hA:(znU r d (dvd (swp t.g p s.pv.length) s.pv.length k) && znU r d (clr (dvd (swp t.g p s.pv.length) s.pv.length k) s.pv.length k)) with
            | false=>rfl
            | true =>
              exfalso
              rw[Bool.and_eq_true,zcm,zcm] at hA
              have hB:(znU r n (dvd (swp s.g p s.pv.length) s.pv.length k) && znU r n (clr (dvd (swp s.g p s.pv.length) s.pv.length k) s.pv.length k))=true:=by
                rw[Bool.and_eq_true,zcm,zcm]
                exact ⟨fun i j hi hj=>by rw[s2 i j hi hj]; exact hA.1 i j hi (by omega),fun i j hi hj=>by rw[s3 i j hi hj]; exact hA.2 i j hi (by omega)⟩
              rw[hB] at e
              cases e
        · rw[if_neg hu] at e; cases e
theorem zot {a:Nat→Nat→Option Rat} {k:Nat} (e:elim r d a k=none):∀ m,elim r d a (k+m)=none
  | 0=>e
  | m+1=>by
    show (elim r d a (k+m)).bind _=none
    rw[zot e m]; rfl
end
theorem solve_both {m:Mx} (hm:znL Rt.fit m.cells) {v:List Rt} (hv:znL Rt.fit v):∃ R b,zbe m v=some (R,b)∧zaH m v=some (R,b)∧Rfit R:=by
  by_cases hgo:mxB m=true∧zES v=true∧(m.rows != m.cols)=false∧decide (m.rows > 12)=false∧((v.length:Int) != m.rows)=false
  · obtain ⟨hb,hvb,hrc,h12,hvl⟩:=hgo
    obtain ⟨r,c,q,hq⟩:=zFs hb
    obtain ⟨hr,hc,hl,hf,rfl⟩:=hq
    obtain ⟨w,hw,_,rfl⟩:=zz9 hvb
    have hcr:c=r:=by simp only[bne_eq_false_iff_eq] at hrc; omega
    subst hcr
    have hn:c≤12:=by simp only[decide_eq_false_iff_not] at h12; omega
    have hwl:w.length=c:=by simp only[bne_eq_false_iff_eq,List.length_map] at hvl; omega
    have hg:=zmo hl hf
    have hgw:zdD c 1 (gof w 1):=zmo (by omega) hw
    obtain ⟨s1,s2⟩:=zya hn hg hw hwl
    obtain ⟨t1,t2,t3⟩:=solve_tok hn hg hw hwl
    have hS:zbe ⟨c,c,q.map rq⟩ (w.map rq)=zcb ⟨c,c,q.map rq⟩ (w.map rq):=by
      unfold zbe
      rw[zqr hm,hb,Option.bind_some,znY hv,hvb]
      simp only[Option.bind_some,Bool.not_true,cond_false,hrc,h12,hvl]
      cases zcb ⟨c,c,q.map rq⟩ (w.map rq)<;>rfl
    rw[hS,← zpv hl]
    cases e:elim c (c+1) (bes c (gof q c) (gof w 1)) (c+1) with
    | none=>exact ⟨_,_,s2 e,t3 e,zo7⟩
    | some F =>
      cases e0:elim c c (gof q c) c with
      | none =>
        have:=zot (elim_front hg (zkG hg hgw) (Nat.le_add_right c 1) (fun i j hi hj=>by unfold bes; rw[if_pos hj]) c (Nat.le_refl c) e0) 1
        rw[e] at this; cases this
      | some f =>
        have inv:=ze5 (zkG hg hgw) (Nat.le_refl _) e
        rw[s1 F e,t1 f e0 F e]
        have hcases:(f.pv.length==c)=((List.range c).all fun i=>F.pv[i]? == some (i:Int)):=by
          rcases zEA (m:=1) (by omega) hg hgw e0 e with ⟨h1,h2,_⟩ | ⟨h1,h2⟩
          · rw[Bool.eq_iff_iff,beq_iff_eq,List.all_eq_true]
            exact ⟨fun _ t ht=>by rw[h2 t (List.mem_range.1 ht)]; exact beq_self_eq_true _,fun _=>h1⟩
          · rw[Bool.eq_iff_iff,beq_iff_eq,List.all_eq_true]
            exact ⟨fun h3=>absurd h3 (by omega),fun h3=>absurd (eq_of_beq (h3 f.pv.length (List.mem_range.2 h1))) h2⟩
        rw[hcases]
        cases (List.range c).all fun i=>F.pv[i]? == some (i:Int) with
        | false=>exact ⟨_,_,rfl,rfl,zo7⟩
        | true=>exact ⟨_,_,rfl,rfl,zts (fun o ho=>by
            obtain ⟨i,hi,rfl⟩:=List.mem_map.1 ho
            exact (inv.good i c (List.mem_range.1 hi) (by omega)).1) (by simp; omega)⟩
  · have hx:zbe m v=some ([],false)∧zaH m v=some ([],false):=by
      unfold zbe zaH
      rw[zqr hm,zre hm,Option.bind_some,Option.bind_some]
      cases hb:mxB m with
      | false=>exact ⟨rfl,rfl⟩
      | true =>
      simp only[Bool.not_true,cond_false,znY hv,zoo hv,Option.bind_some]
      cases hvb:zES v with
      | false=>exact ⟨rfl,rfl⟩
      | true =>
      cases hrc:(m.rows != m.cols) with
      | true=>exact ⟨rfl,rfl⟩
      | false =>
      cases h12:decide (m.rows > 12) with
      | true=>exact ⟨rfl,rfl⟩
      | false =>
      cases hvl:((v.length:Int) != m.rows) with
      | true=>exact ⟨rfl,rfl⟩
      | false=>exact absurd ⟨hb,hvb,hrc,h12,hvl⟩ hgo
    exact ⟨_,_,hx.1,hx.2,zo7⟩
theorem law_SolveSystem (m:Mx) (v:List Rt) (h:CK.wf (.sl .rat) m.cells) (hv:CK.wf (.sl .rat) v):M_laws_FnExactSolveSystem m v=some true:=by
  unfold M_laws_FnExactSolveSystem
  refine zMQ (zPd h (by omega) (by omega)) fun r r0 r1=>zMQ (zAh hv r0 (by omega)) fun r' q0 q1=>?_
  have f:=zo8 (l:=m.cells) (by omega)
  have fv:=zo8 (l:=v) (by omega)
  have f1:=f.few
  have f2:=fv.few
  have hw:ws wR m.cells≤1048576:=by rw[zz7]; omega
  obtain ⟨R,b,hs,hi,g⟩:=solve_both f.fit fv.fit
  have g1:=g.few
  simp (disch:=omega) only[zPa f.fit,zAc fv.fit,hs,hi,Option.bind_some,zuM g.fit,zuM fv.fit,zQa f.fit,zmr,beq_self_eq_true,Bool.not_true,cond_false,zm0 g.fit g.few,zm0 fv.fit fv.few,zKD f.fit f.few,zDk g.fit g.few,zQc,zL4]
end Go.Di
