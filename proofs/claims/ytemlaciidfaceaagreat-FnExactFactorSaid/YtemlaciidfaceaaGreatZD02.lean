/-
  Own work: part 3 of the texts that the proof of the given statement leans on.
-/
import Derived.Laws.BytesArg
import Derived.Tactics
import Derived.Test.YtemlaciidfaceaaGreatZD01
noncomputable section
open Go.RowKit (Below)
namespace Go.Di
section
variable {P:Program} {C:Bs} {w w':World} {s s':St} {X:Nat→Prop} {β β':Nat→Option Value} {a:Act} {o:Oper} {tm:Array Value}
  {t:TypeId} {x y:Operand} {i:TI} {K:Act→World→Prop} {Q:Exit→Act→World→Prop} {lay:List (TypeId × TI)} {cons:List (FuncId × Con)} {av:AV}
theorem znP (ho:o.op = .move x∨o.op = .assign x) (g:Gam C s X β a.tmps w) (hx:zaS (cx C s β w) (zaX s x) (a.eval x)) (hy:(evalOp lay cons o s).Yields (av,s')) (hK:Goes C X o a av s' K):o.wp P a w K Q:=by
  rcases ho with ho | ho
  all_goals
    simp only[evalOp,ho] at hy
    cases hy
    exact zak (v:=a.eval x) (by simp[execOp,ho]) g hx hK
theorem zxX {c:Operand} (ho:o.op = .pick c x y) (g:Gam C s X β a.tmps w) (hc:zaS (cx C s β w) (zaX s c) (a.eval c)) (hx:zaS (cx C s β w) (zaX s x) (a.eval x)) (hz:zaS (cx C s β w) (zaX s y) (a.eval y))
    (hy:(evalOp lay cons o s).Yields (av,s')) (hK:Goes C X o a av s' K):o.wp P a w K Q:=by
  simp only[evalOp,ho] at hy
  split at hy
  · rename_i b p q h1 h2 h3
    cases hy
    rw[h1] at hc; rw[h2] at hx; rw[h3] at hz
    have e1:=zf0 hc; have e2:=zf0 hx; have e3:=zf0 hz
    refine zak (v := .bool (bif b then p else q)) ?_ g zbH hK
    cases b<;>simp[execOp,ho,e1,e2,e3,asBool]
  · rename_i b h1 _
    rw[h1] at hc
    have e1:=zf0 hc
    cases b with
    | true=>cases hy; exact zak (v:=a.eval x) (by simp[execOp,ho,e1,asBool]) g hx hK
    | false=>cases hy; exact zak (v:=a.eval y) (by simp[execOp,ho,e1,asBool]) g hz hK
  · exact hy.elim
theorem zyC (hL:zcF P lay) (h:zuk t lay=true):P.underlying t=some .bool:=by
  unfold zuk at h
  split at h
  · rename_i hi
    obtain ⟨inf,d,z,_,hu,_,_,_,_,_,_,_,_,hb,_⟩:=hL t _ hi
    rw[hu,hb rfl]
  · cases h
theorem zs9 (hL:zcF P lay) {op:BinOp} {U:TypeId} (ho:o.op = .binOp op t x y U) (g:Gam C s X β a.tmps w) (hx:zaS (cx C s β w) (zaX s x) (a.eval x)) (hz:zaS (cx C s β w) (zaX s y) (a.eval y))
    (hy:(evalOp lay cons o s).Yields (av,s')) (hK:Goes C X o a av s' K):o.wp P a w K Q:=by
  simp only[evalOp,ho] at hy
  unfold Go.Di.binOp at hy
  split at hy
  · rename_i k m k' n h1 h2
    rw[h1] at hx; rw[h2] at hz
    split at hy
    · rename_i hk
      have hk:=zgK hk
      subst hk
      refine zCM ho g (zen hx) (zen hz) (r:=(av,s')) ?_ hK
      cases hi:zul s k m n op with
      | fail=>rw[hi] at hy; exact hy.elim
      | ret r=>rw[hi] at hy; cases hy; rfl
      | ask q f=>rw[hi] at hy; obtain ⟨u,hu,hf⟩:=hy; simp[Susp.zuP,hu,hf]
    · split at hy
      · obtain ⟨u,hu,hf⟩:=hy
        cases hf
        have hn:¬ n < 0:=by have:=of_decide_eq_true (zdl hu); omega
        have h3:=zen hx
        have h4:=zen hz
        exact zak (by simp[execOp,ho,h3,h4,eqGuard,Go.binOp,Op.shift,hn,zEM]) g zaU hK
      · exact hy.elim
  · rename_i m n h1 h2
    rw[h1] at hx; rw[h2] at hz
    split at hy
    · rename_i hsc
      have hsc:=zyC hL hsc
      split at hy
      · cases hy; exact zHD hsc ho g (zf0 hx) (zf0 hz) hK
      · cases hy; exact zHC hsc ho g (zf0 hx) (zf0 hz) hK
      · exact hy.elim
    · exact hy.elim
  · rename_i m n h1 h2
    rw[h1] at hx; rw[h2] at hz
    split at hy
    · cases hy; exact zKg ho g (zkz hx) (zkz hz) hK
    · cases hy; exact zKf ho g (zkz hx) (zkz hz) hK
    · obtain ⟨u,hu,hf⟩:=hy
      cases hf
      exact zKh ho g (zkz hx) (zkz hz) (by have:=zdl hu; simpa using Nat.le_of_ble_eq_true this) hK
    · exact hy.elim
  · exact hy.elim
theorem zta (hL:zcF P lay) (ho:o.op = .alloc t) (g:Gam C s X β a.tmps w) (hy:(evalOp lay cons o s).Yields (av,s')) (hK:Goes C X o a av s' K):o.wp P a w K Q:=by
  simp only[evalOp,ho] at hy
  split at hy
  · rename_i i hi
    cases hy; exact alloc_sound (hL t i hi) ho g _ hK
  · exact hy.elim
theorem zAh (hL:zcF P lay) (ho:o.op = .box t x) (g:Gam C s X β a.tmps w) (hx:zaS (cx C s β w) (zaX s x) (a.eval x)) (hy:(evalOp lay cons o s).Yields (av,s')) (hK:Goes C X o a av s' K):o.wp P a w K Q:=by
  simp only[evalOp,ho] at hy
  split at hy
  · rename_i i l hi hl
    split at hy
    · cases hy; exact zEa (hL t i hi) ho g _ hx hl hK
    · exact hy.elim
  · exact hy.elim
theorem zs8 (hL:zcF P lay) {ps:Array (Nat × Operand)} (ho:o.op = .build t ps) (g:Gam C s X β a.tmps w) (hx:∀ (j:Nat) (z:Operand),(j,z)∈ps.toList→zaS (cx C s β w) (zaX s z) (a.eval z))
    (hy:(evalOp lay cons o s).Yields (av,s')) (hK:Goes C X o a av s' K):o.wp P a w K Q:=by
  simp only[evalOp,ho] at hy
  split at hy
  · rename_i i hi
    split at hy
    · rename_i l hst hl
      cases hy; exact zuN (hL t i hi) ho g hst hx hl hK
    · exact hy.elim
  · exact hy.elim
theorem zxW (_hL:zcF P lay) {op:UnOp} (ho:o.op = .unOp op t x) (g:Gam C s X β a.tmps w) (hx:zaS (cx C s β w) (zaX s x) (a.eval x)) (hy:(evalOp lay cons o s).Yields (av,s')) (hK:Goes C X o a av s' K):o.wp P a w K Q:=by
  simp only[evalOp,ho] at hy
  split at hy
  · rename_i b h1
    rw[h1] at hx; cases hy; exact zA2 ho g (zf0 hx) hK
  · rename_i k n h1
    rw[h1] at hx; cases hy; exact zA5 ho g (zen hx) hK
  · exact hy.elim
theorem zn9 {e:ST} (h:zo1 t lay=true) (hi:zcE t lay=some i) (he:i.elem=some e):e.zek=true:=by
  unfold zo1 at h
  split at h
  · rename_i hi'
    rw[hi'] at hi; cases hi
    cases he; exact h
  · cases h
theorem zxY (hL:zcF P lay) (ho:o.op = .makeSlice t x y) (g:Gam C s X β a.tmps w) (hx:zaS (cx C s β w) (zaX s x) (a.eval x)) (hz:zaS (cx C s β w) (zaX s y) (a.eval y))
    (hy:(evalOp lay cons o s).Yields (av,s')) (hK:Goes C X o a av s' K):o.wp P a w K Q:=by
  simp only[evalOp,ho] at hy
  split at hy
  · rename_i _ _ _ e _ _ _ n m hi h1 h2
    rw[h1] at hx; rw[h2] at hz
    split at hy
    · rename_i z hze
      split at hy
      · rename_i hdt
        obtain ⟨u,hu,hf⟩:=hy
        cases hf
        have hg:=zdl hu
        simp only[Bool.and_eq_true,decide_eq_true_eq] at hg
        exact make_deep (hL t _ hi) ho g _ rfl (zn9 hdt hi rfl) hze (zen hx) (zen hz) hg.1.1 hg.1.2 hg.2 hK
      · obtain ⟨u,hu,hf⟩:=hy
        cases hf
        have hg:=zdl hu
        simp only[Bool.and_eq_true,decide_eq_true_eq] at hg
        exact zx7 (hL t _ hi) ho g _ rfl hze (zen hx) (zen hz) hg.1.1 hg.1.2 hg.2 hK
    · exact hy.elim
  · exact hy.elim
theorem sound_slice (hL:zcF P lay) {lo hi:Option Operand} (ho:o.op = .slice t x lo hi none) (g:Gam C s X β a.tmps w) (hx:zaS (cx C s β w) (zaX s x) (a.eval x))
    (hlo:∀ z,lo=some z→zaS (cx C s β w) (zaX s z) (a.eval z)) (hhi:∀ z,hi=some z→zaS (cx C s β w) (zaX s z) (a.eval z))
    (hy:(evalOp lay cons o s).Yields (av,s')) (hK:Goes C X o a av s' K):o.wp P a w K Q:=by
  simp only[evalOp,ho] at hy
  split at hy
  · rename_i i b hi hb
    have hT:=hL t i hi
    rw[zco hb] at hx
    unfold sliceOp at hy
    split at hy
    · split at hy
      · rename_i q hs hbd
        obtain ⟨u,hu,hf⟩:=hy
        cases hf
        exact zAi hT (zvE hs) ho g hx hlo hhi hbd (zdl hu) hK
      · exact hy.elim
    · split at hy
      · rename_i q hs hbd
        obtain ⟨u,hu,hf⟩:=hy
        cases hf
        exact zKm hT (zCL hs) ho g hx hlo hhi hbd (zdl hu) hK
      · exact hy.elim
    · split at hy
      · rename_i fr u xs hl
        split at hy
        · rename_i q hs hbd
          obtain ⟨u,hu,hf⟩:=hy
          cases hf
          exact zAj hT (zCL hs) ho g hl hx hlo hhi hbd (zdl hu) hK
        · exact hy.elim
      · exact hy.elim
    · exact hy.elim
  · exact hy.elim
theorem zmr (hL:zcF P lay) {f:Nat} (ho:o.op = .fieldAddr t x f) (g:Gam C s X β a.tmps w) (hx:zaS (cx C s β w) (zaX s x) (a.eval x)) (hy:(evalOp lay cons o s).Yields (av,s')) (hK:Goes C X o a av s' K):o.wp P a w K Q:=by
  simp only[evalOp,ho] at hy
  split at hy
  · rename_i i b hi hb
    have hT:=hL t i hi
    rw[zco hb] at hx
    split at hy
    · rename_i off k ag n q hst hf
      split at hy
      · rename_i e hl
        cases hy; exact zq9 hT ho g hst hf hl hx hK
      · exact hy.elim
    · rename_i off k ag cs q hst hf
      cases hy; exact zq7 hT ho g hst hf hx hK
    · rename_i off k ag n j q hst hf
      split at hy
      · rename_i fr u xs hl
        cases hy; exact zq8 hT ho g hst hf hl hx hK
      · exact hy.elim
    · rename_i off k ag n j q hst hf
      split at hy
      · rename_i u xs hl
        cases hy; exact zra hT ho g hst hf hl hx hK
      · exact hy.elim
    · exact hy.elim
  · exact hy.elim
theorem zs6 (hL:zcF P lay) {f:Nat} (ho:o.op = .field t x f) (g:Gam C s X β a.tmps w) (hx:zaS (cx C s β w) (zaX s x) (a.eval x)) (hy:(evalOp lay cons o s).Yields (av,s')) (hK:Goes C X o a av s' K):o.wp P a w K Q:=by
  simp only[evalOp,ho] at hy
  split at hy
  · rename_i i l hi h1
    rw[h1] at hx
    split at hy
    · rename_i off k ag hst hf
      split at hy
      · rename_i c hw hone
        cases hy
        exact zuy (hL t i hi) ho g hst hx hf hw (fun h=>by subst h; simpa using hone) hK
      · exact hy.elim
    · exact hy.elim
  · exact hy.elim
theorem sound_indexAddr (hL:zcF P lay) (ho:o.op = .indexAddr t x y) (g:Gam C s X β a.tmps w) (hx:zaS (cx C s β w) (zaX s x) (a.eval x)) (hz:zaS (cx C s β w) (zaX s y) (a.eval y))
    (hy:(evalOp lay cons o s).Yields (av,s')) (hK:Goes C X o a av s' K):o.wp P a w K Q:=by
  simp only[evalOp,ho] at hy
  split at hy
  · rename_i _ _ _ e _ _ b j hi hb h2
    rw[zco hb] at hx
    rw[h2] at hz
    have hT:=hL t _ hi
    unfold indexOp at hy
    split at hy
    · split at hy
      · rename_i he
        have:=znb he; subst this
        obtain ⟨u,hu,hf⟩:=hy
        cases hf
        exact zun hT rfl ho g hx (zen hz) hu hK
      · exact hy.elim
    · split at hy
      · rename_i fr u xs hl
        split at hy
        · rename_i he
          have:=znb he; subst this
          obtain ⟨u,hu,hf⟩:=hy
          cases hf
          exact zo5 hT rfl ho g hl hx (zen hz) hu hK
        · exact hy.elim
      · exact hy.elim
    · split at hy
      · rename_i fr u xs hl
        split at hy
        · rename_i he
          have:=znb he; subst this
          obtain ⟨u,hu,hf⟩:=hy
          cases hf
          exact zo4 hT rfl ho g hl hx (zen hz) hu hK
        · exact hy.elim
      · exact hy.elim
    · split at hy
      · rename_i u xs hl
        split at hy
        · rename_i he
          have:=znb he; subst this
          obtain ⟨u,hu,hf⟩:=hy
          cases hf
          exact zqU hT rfl ho g hl hx (zen hz) hu hK
        · exact hy.elim
      · exact hy.elim
    · exact hy.elim
  · exact hy.elim
theorem zs5 (hL:zcF P lay) (ho:o.op = .index t x y) (g:Gam C s X β a.tmps w) (hx:zaS (cx C s β w) (zaX s x) (a.eval x)) (hz:zaS (cx C s β w) (zaX s y) (a.eval y))
    (hy:(evalOp lay cons o s).Yields (av,s')) (hK:Goes C X o a av s' K):o.wp P a w K Q:=by
  simp only[evalOp,ho] at hy
  split at hy
  · rename_i hi hb h2
    rw[zco hb] at hx
    rw[h2] at hz
    obtain ⟨u,hu,hf⟩:=hy
    cases hf
    exact zCP (hL t _ hi) rfl ho g hx (zen hz) hu hK
  · exact hy.elim
theorem sound_extract {f:Nat} (ho:o.op = .extract x f) (g:Gam C s X β a.tmps w) (hx:zaS (cx C s β w) (zaX s x) (a.eval x)) (hy:(evalOp lay cons o s).Yields (av,s')) (hK:Goes C X o a av s' K):o.wp P a w K Q:=by
  simp only[evalOp,ho] at hy
  split at hy
  · rename_i ps h1
    rw[h1] at hx
    obtain ⟨vs,hv,hok⟩:=hx
    split at hy
    · rename_i b l hp
      cases hy
      have get:∀ (ps:List (Bool × List A1)) (vs:List Value),zkC (cx C s β w) ps vs→∀ (f:Nat) b l,ps[f]? = some (b,l)→∃ u,vs[f]? = some u∧VOk (cx C s β w) b l u:=by
        intro ps
        induction ps with
        | nil=>intro vs _ f b l h; simp at h
        | cons p r ih =>
          intro vs h f b l hf
          cases vs with
          | nil=>exact h.elim
          | cons v vs =>
            cases f with
            | zero=>simp at hf; subst hf; exact ⟨v,rfl,h.1⟩
            | succ f=>simp at hf; simpa using ih vs h.2 f b l hf
      obtain ⟨u,hu,hvo⟩:=get ps vs.toList hok f b l hp
      refine zak (v:=u) (av := .v b l) ?_ g hvo hK
      have hu':vs[f]? = some u:=by simpa using hu
      simp[execOp,ho,Instr.extract,hv,hu']
    · exact hy.elim
  · exact hy.elim
theorem zCJ (hL:zcF P lay) (h:zCK t lay=true):∃ k,P.underlying t=some (.int k):=by
  unfold zCK at h
  split at h
  · rename_i hi
    obtain ⟨inf,d,z,_,hu,_,_,_,_,_,_,hk,_⟩:=hL t _ hi
    exact ⟨_,by rw[hu,hk _ rfl]⟩
  · cases h
theorem zuj (hL:zcF P lay) (h:zo2 t lay=true):∃ E,P.underlying t=some (.slice E)∧P.underlying E=some (.int .u8):=by
  unfold zo2 at h
  split at h
  · rename_i hi
    obtain ⟨inf,d,z,_,hu,_,_,_,_,_,_,_,_,_,_,hb⟩:=hL t _ hi
    obtain ⟨E,h1,h2⟩:=hb rfl
    exact ⟨E,by rw[hu,h1],h2⟩
  · cases h
theorem zC6 (ys:List Int) (j:Nat):(flat .byte ys)[j]? = (ys[j]?).map (Cell.int .u8):=by
  have:flat .byte ys=ys.map (Cell.int .u8):=by
    unfold flat
    induction ys with
    | nil=>rfl
    | cons y r ih=>exact congrArg (Cell.int .u8 y :: ·) ih
  rw[this,List.getElem?_map]
theorem zyN {T E:TypeId} (g:Gam C s X β a.tmps w) {b:A1} {xs:List Int} {v:Value} (hok:A1Ok (cx C s β w) b v) (hl:zh2 s.ents .byte b=some xs) (hE:P.underlying T=some (.slice E)) (he:P.underlying E=some (.int .u8)) (hd:P.underlying t=some .string) :
    (convert T t v).run P w = .ok (.string (bytesOf xs)) w:=by
  obtain ⟨news,hn,hc⟩:=zmj g (e := .byte) hok hl
  have hget:∀ (j:Nat) (n:Int),xs[j]? = some n→news[j]? = some (.int .u8 n):=fun j n hj=>by
    obtain ⟨u,h1,h2⟩:=hc j (.int .u8 n) (by rw[zC6,hj]; rfl)
    rw[h1,zJm h2]
  obtain ⟨hlen,_,⟨h0,ad,c,rfl⟩ | ⟨q,off,c,rfl,hcell⟩⟩:=hn
  · have hx:xs=[]:=List.eq_nil_of_length_eq_zero h0
    subst hx
    rw[run_convert_bytes_string w T t E ad 0 c hE he hd]
    cases ad with
    | none=>simp[Conv.bytesToString]; rfl
    | some ad =>
      have:=run_bytesToString (P:=P) w ad 0 c [] (by simp[loadCells,loadCellsFrom])
      rw[this]; rfl
  · exact run_convert_bytes_arg w T E hE he q off xs.length c xs rfl (fun i hi=>by
      have hx:xs[i]? = some xs[i]:=List.getElem?_eq_getElem hi
      rw[hcell i _ (hget i _ hx)]
      simp[List.getD,hx]) t hd
theorem zoK (hL:zcF P lay) {T:TypeId} (ho:o.op = .convert T t x) (g:Gam C s X β a.tmps w) (hx:zaS (cx C s β w) (zaX s x) (a.eval x)) (hy:(evalOp lay cons o s).Yields (av,s')) (hK:Goes C X o a av s' K):o.wp P a w K Q:=by
  simp only[evalOp,ho] at hy
  split at hy
  · rename_i hi h1 hint
    rw[h1] at hx
    cases hy
    have hT:=zCJ hL hint
    obtain ⟨inf,d,z,_,hu,_,_,_,_,_,_,hk,_⟩:=hL t _ hi
    have hk:=hk _ rfl
    subst hk
    obtain ⟨k2,hd⟩:=hT
    have hv:=zen hx
    refine zak (v := .int _ _) ?_ g zaU hK
    simp[execOp,ho,convert,run_underlying hd,run_underlying hu,hv,Conv.intToInt]
  · rename_i b hi h1 hint
    rw[h1] at hx
    split at hy
    · rename_i xs hb hl
      cases hy
      obtain ⟨inf,d,z,_,hu,_,_,_,_,_,_,_,hstr,_⟩:=hL t _ hi
      cases hstr rfl
      obtain ⟨E,hE,he⟩:=zuj hL hb
      obtain ⟨a1,e1,hok,_⟩:=hx
      cases e1
      exact zak (v := .string (bytesOf xs)) (by rw[show (execOp a.eval o)=(do pure (.value (← convert T t (a.eval x)))) by simp[execOp,ho]]; simp only[Sem.run_bind,zyN g hok hl hE he hu,Result.andThen]; rfl) g zkA hK
    · exact hy.elim
  · exact hy.elim
theorem zAf (ho:o.op = .nilCheck x) (g:Gam C s X β a.tmps w) (hx:zaS (cx C s β w) (zaX s x) (a.eval x)) (hy:(evalOp lay cons o s).Yields (av,s')) (hK:Goes C X o a av s' K):o.wp P a w K Q:=by
  simp only[evalOp,ho] at hy
  have go:∀ b ad,zaS (cx C s β w) (.v false [b]) (a.eval x)→a.eval x = .pointer (some ad)→av = .one b→s'=s→o.wp P a w K Q:=fun b ad hb hv h1 h2=>by
    subst h1; subst h2
    refine zak (v := .pointer (some ad)) (by simp[execOp,ho,hv]) g (by rw[← hv]; exact hb) hK
  split at hy
  · rename_i n off ha
    rw[zco ha] at hx
    split at hy
    · rename_i e hl
      cases hy
      obtain ⟨a1,e1,h1,_⟩:=id hx
      cases e1
      obtain ⟨b,_,hv⟩:=h1 (by show (look n s.ents).isSome=true; rw[hl]; rfl)
      exact go _ _ hx hv rfl rfl
    · exact hy.elim
  · rename_i cs off ha
    rw[zco ha] at hx
    cases hy
    obtain ⟨a1,e1,h1,_⟩:=id hx
    cases e1
    obtain ⟨b,q,hv,_⟩:=h1
    exact go _ _ hx hv rfl rfl
  · rename_i n j off ha
    rw[zco ha] at hx
    split at hy
    · rename_i hl
      cases hy
      obtain ⟨a1,e1,h1,_⟩:=id hx
      cases e1
      obtain ⟨_,g0,q,m,cap,_,hv⟩:=h1 _ _ _ hl
      exact go _ _ hx hv rfl rfl
    · exact hy.elim
  · rename_i n j off ha
    rw[zco ha] at hx
    split at hy
    · rename_i hl
      cases hy
      obtain ⟨a1,e1,h1,_⟩:=id hx
      cases e1
      obtain ⟨_,vs,g0,q,m,cap,_,_,hv⟩:=h1 _ _ _ hl
      exact go _ _ hx hv rfl rfl
    · exact hy.elim
  · exact hy.elim
end
end Go.Di
open Go.RowKit (Below)
namespace Go.Di
theorem zhN (n:Nat) (cs:List Cell):∀ l:List AV,(zqj n cs l).length=l.length
  | []=>rfl
  | a :: l=>by simp[zqj,zhN n cs l]
theorem zm0 (n:Nat) (cs:List Cell) (t:Nat):∀ l:List AV,(zqj n cs l)[t]? = (l[t]?).map (AV.shut n cs)
  | []=>by simp[zqj]
  | a :: l=>by cases t with
    | zero=>simp[zqj]
    | succ t=>simpa [zqj] using zm0 n cs t l
theorem zn5 (n m:Nat) (cs:List Cell):∀ es,look m (zEP n cs es)=(look m es).map (Ent.shut n cs)
  | []=>rfl
  | (k,f) :: r=>by simp only[zEP,zaq,zn5 n m cs r]; split<;>rfl
theorem zef (n m:Nat) (cs:List Cell) (s:St):look m (s.shut n cs).ents=if m=n then none else (look m s.ents).map (Ent.shut n cs):=by
  simp only[St.shut,zn5,zkl]; split<;>rfl
theorem zhX (n:Nat) (cs:List Cell) (e:Ent):(e.shut n cs).mut=e.mut:=by cases e<;>rfl
section
variable {P:Program} {C:Bs} {w w':World} {s s':St} {X:Nat→Prop} {β β':Nat→Option Value} {a:Act} {o:Oper} {tm:Array Value}
  {t:TypeId} {x y:Operand} {i:TI} {K:Act→World→Prop} {Q:Exit→Act→World→Prop} {lay:List (TypeId × TI)} {cons:List (FuncId × Con)} {av:AV}
theorem zoG {n b:Nat} {cs:List Cell} (h:Top (fun m=>look m (s.shut n cs).ents) β b):∃ m e v,m≠n∧look m s.ents=some e∧e.mut=true∧β m=some v∧b∈zao v:=by
  obtain ⟨m,e,v,h1,h2,h3,h4⟩:=h
  simp only[zef] at h1
  split at h1
  · cases h1
  · rename_i hn
    cases hm:look m s.ents with
    | none=>simp[hm] at h1
    | some f=>simp[hm] at h1; subst h1; exact ⟨m,f,v,hn,hm,by rwa [zhX] at h2,h3,h4⟩
theorem zCH (n:Nat) (cs:List Cell):Le (cx C s β w) (cx C (s.shut n cs) β w) (·≠n) where
  hav _ h:=h
  heap _ _ _:=rfl
  size:=Nat.le_refl _
  top _ _ _ h:=by obtain ⟨m,e,v,_,h1,h2,h3,h4⟩:=zoG h; exact ⟨m,e,v,h1,h2,h3,h4⟩
  look m hm:=by
    simp only[cx,zef,if_neg hm]
    cases hl:look m s.ents with
    | none=>left; simp
    | some e =>
      right; left
      refine ⟨trivial,?_⟩
      cases e with
      | box l=>right; left; exact ⟨l,zoQ n cs l,by simp,by simp[Ent.shut]⟩
      | arr fr t xs=>left; simp[Ent.shut]
      | deep fr t xs=>left; simp[Ent.shut]
      | pool k=>left; simp[Ent.shut]
  tk _ _ h:=h
  cont m hm _ fr t xs h:=by
    have h:look m (s.shut n cs).ents=some (.deep fr t xs):=h
    rw[zef,if_neg hm] at h
    cases hl:look m s.ents with
    | none=>rw[hl] at h; cases h
    | some e =>
      rw[hl] at h
      cases e with
      | deep fr' t' xs'=>cases h; exact ⟨fr,hl,rfl⟩
      | box l=>cases h
      | arr fr t' xs'=>cases h
      | pool k=>cases h
theorem zDR (g:Gam C s X β tm w) {b:A1} {c:Cell} {v:Value} (h:cellOf s.ents b=some c) (hb:A1Ok (cx C s β w) b v) (h1:v.oneCell'=true):(cx C s β w).rd v c:=by
  cases b with
  | bot=>cases h; exact ⟨[],.any v h1,by intro b hb; cases hb⟩
  | d c'=>cases h; exact hb
  | own n =>
    simp only[cellOf] at h
    split at h
    · rename_i t xs hl
      cases h
      exact g.ents n _ _ hl (hb _ _ _ hl)
    · cases h
  | dp n =>
    simp only[cellOf] at h
    split at h
    · rename_i t xs hl
      cases h
      obtain ⟨vs,h1,h2⟩:=hb (by show (look n s.ents).isSome=true; rw[hl]; rfl)
      exact zpg (x:=cx C s β w) (g.ents n _ _ hl h1) h2
    · cases h
  | _=>cases h
theorem zom (g:Gam C s X β tm w):∀ {l:List A1} {cs:List Cell} {vs:List Value},zkt s.ents l=some cs→zcm (cx C s β w) l vs→∀ (i:Nat) (c:Cell),cs[i]? = some c→∃ v,vs[i]? = some v∧(cx C s β w).rd v c
  | [],cs,_,h,_,i,c,hc=>by cases h; simp at hc
  | b :: r,cs,[],h,hv,i,c,hc=>hv.elim
  | b :: r,cs,v :: vs,h,⟨h1,h2,h3⟩,i,c,hc=>by
    unfold zkt at h
    split at h
    · rename_i c0 l0 e1 e2
      cases h
      cases i with
      | zero=>simp at hc; subst hc; exact ⟨v,rfl,zDR g e1 h1 h2⟩
      | succ i=>simpa using zom g e2 h3 i c (by simpa using hc)
    · cases h
theorem Gam.sealed (g:Gam C s X β tm w) {n:Nat} {l:List A1} {cs:List Cell} (hl:look n s.ents=some (.box l)) (hc:zkt s.ents l=some cs) :
    Gam C (s.shut n cs) X β tm w∧∀ b,β n=some (.pointer (some ⟨b,0,none⟩))→(cx C (s.shut n cs) β w).za8 b 0 cs:=by
  have hle:Le (cx C s β w) (cx C (s.shut n cs) β w) (·≠n):=zCH n cs
  have hat:∀ b,β n=some (.pointer (some ⟨b,0,none⟩))→(cx C (s.shut n cs) β w).za8 b 0 cs:=by
    intro b hb
    have hT:Top (fun m=>look m s.ents) β b:=⟨n,_,_,hl,rfl,hb,by simp[zao]⟩
    obtain ⟨b',vs,T,e1,hh,hok⟩:=g.ents n _ _ hl hb
    cases e1
    refine ⟨.inr fun k hk=>?_,fun i c hic=>?_⟩
    · rw[List.mem_singleton] at hk
      subst hk
      refine ⟨(g.fresh k hT).2,fun ht=>?_,.inl (g.fresh k hT).1⟩
      obtain ⟨m,e,v,hm,h1,h2,h3,h4⟩:=zoG ht
      exact hm (g.uniq m n e _ v _ k h1 hl h2 rfl h3 hb h4 (by simp[zao]))
    · obtain ⟨v,hv,hd⟩:=zom g hc hok i c hic
      refine ⟨v,?_,hle.rd hd⟩
      have hh:w.heap[b]? = some (.cells vs T (0,0)):=hh
      show w.cell? _=_
      rw[Nat.zero_add,cell_of_row _ b i vs T (0,0) hh]; simpa using hv
  have one:∀ (b:A1) (v:Value),A1Ok (cx C s β w) b v→A1Ok (cx C (s.shut n cs) β w) (b.shut n cs) v:=by
    intro b v hb
    have other:A1Ok (cx C (s.shut n cs) β w) (b.kill n) v:=hle.a1 (zmQ n b) (hb.kill n)
    cases b with
    | lp m off =>
      simp only[A1.shut]
      split
      · rename_i hm
        have hm:=Nat.eq_of_beq_eq_true hm
        subst hm
        obtain ⟨b,h1,h2⟩:=hb (by show (look n s.ents).isSome=true; rw[hl]; rfl)
        exact ⟨b,0,by rw[h2,Nat.zero_add],hat b h1⟩
      · rename_i hm
        refine hle.a1 (a := .lp m off) (fun e=>?_) hb
        subst e; simp at hm
    | _=>exact other
  have many:∀ (l:List A1) (vs:List Value),zcm (cx C s β w) l vs→zcm (cx C (s.shut n cs) β w) (zoQ n cs l) vs:=by
    intro l
    induction l with
    | nil=>intro vs h; cases vs with | nil=>trivial | cons _ _=>exact h.elim
    | cons b r ih=>intro vs h; cases vs with
      | nil=>exact h.elim
      | cons v vs=>exact ⟨one b v h.1,h.2.1,ih vs h.2.2⟩
  have vok:∀ gg (l:List A1) (v:Value),VOk (cx C s β w) gg l v→VOk (cx C (s.shut n cs) β w) gg (zoQ n cs l) v:=by
    intro gg l v h
    cases gg with
    | true=>obtain ⟨vs,h1,h2⟩:=h; exact ⟨vs,h1,many _ _ h2⟩
    | false =>
      obtain ⟨b,rfl,h2,h3⟩:=h
      refine ⟨b.shut n cs,rfl,one b v h2,?_⟩
      rcases h3 with rfl | h3
      · exact .inl rfl
      · exact .inr h3
  have avok:∀ (b:AV) (v:Value),zaS (cx C s β w) b v→zaS (cx C (s.shut n cs) β w) (b.shut n cs) v:=by
    intro b v h
    cases b with
    | v gg l=>exact vok gg l v h
    | tup ps =>
      obtain ⟨vs,h1,h2⟩:=h
      refine ⟨vs,h1,?_⟩
      clear h1
      generalize vs.toList=l at h2
      induction ps generalizing l with
      | nil=>cases l with | nil=>trivial | cons _ _=>exact h2.elim
      | cons p r ih=>cases l with
        | nil=>exact h2.elim
        | cons v l=>exact ⟨vok _ _ _ h2.1,ih l h2.2⟩
  refine ⟨⟨by simp[St.shut,zhN,g.len],fun t b hx hb=>?_,fun m e v h1 h2=>?_,fun k m e f u v b h1 h2 h3 h4 h5 h6 h7 h8=>?_,fun b hb=>?_,g.kb,g.below,fun m v hp hlk=>?_,g.np,fun m e hm=>?_,g.fx,fun π hπ=>⟨(g.tk π hπ).1,by rw[zef]; split<;>simp[(g.tk π hπ).2]⟩⟩,hat⟩
  · simp only[St.shut,zm0] at hb
    cases ht:s.env[t]? with
    | none=>simp[ht] at hb
    | some b0=>simp[ht] at hb; subst hb; exact avok _ _ (g.env t b0 hx ht)
  · simp only[zef] at h1
    split at h1
    · cases h1
    · cases hm:look m s.ents with
      | none=>simp[hm] at h1
      | some f =>
        simp[hm] at h1; subst h1
        have hf:=g.ents m f v hm h2
        cases f with
        | box l'=>obtain ⟨b,vs,T,q1,q2,q3⟩:=hf; exact ⟨b,vs,T,q1,q2,many _ _ q3⟩
        | arr fr t xs=>exact EntOk.le hle (e := .arr fr t xs) trivial (fun _ _ _=>rfl) hf
        | deep fr t xs=>exact EntOk.le hle (e := .deep fr t xs) trivial (fun _ _ _=>rfl) hf
        | pool q=>exact EntOk.le hle (e := .pool q) trivial (fun _ _ _=>rfl) hf
  · simp only[zef] at h1 h2
    split at h1<;>split at h2<;>try (first | cases h1 | cases h2)
    cases hk:look k s.ents with
    | none=>simp[hk] at h1
    | some e' =>
      cases hm:look m s.ents with
      | none=>simp[hm] at h2
      | some f' =>
        simp[hk] at h1; simp[hm] at h2; subst h1; subst h2
        exact g.uniq k m e' f' u v b hk hm (by rwa [zhX] at h3) (by rwa [zhX] at h4) h5 h6 h7 h8
  · obtain ⟨m,e,v,_,h1,h2,h3,h4⟩:=zoG hb
    exact g.fresh b ⟨m,e,v,h1,h2,h3,h4⟩
  · refine g.pin m v hp ?_
    simp only[zef] at hlk
    split at hlk
    · cases hlk
    · cases hm:look m s.ents with
      | none=>simp[hm] at hlk
      | some f=>rfl
  · simp only[zef] at hm
    split at hm
    · cases hm
    · cases h0:look m s.ents with
      | none=>simp[h0] at hm
      | some f=>exact g.bs m f h0
theorem seal1_ok (g:Gam C s X β tm w) {b:AV} {v:Value} {cs:List Cell} {s1:St} (h:seal1 s b=some (cs,s1)) (hb:zaS (cx C s β w) b v) :
    Gam C s1 X β tm w∧(∃ q o,v = .pointer (some ⟨q,o,none⟩)∧(cx C s1 β w).za8 q o cs)∧∀ q o ds,(cx C s β w).za8 q o ds→(cx C s1 β w).za8 q o ds:=by
  unfold seal1 at h
  split at h
  · cases h
    obtain ⟨a1,e1,h0,_⟩:=hb
    cases e1
    obtain ⟨q,o,h1,h2⟩:=h0
    exact ⟨g,⟨q,o,by simpa using h1,h2⟩,fun _ _ _ h=>h⟩
  · rename_i n
    split at h
    · rename_i l hl
      split at h
      · rename_i cs' hc
        cases h
        have gf:=g.zat l
        have hl':look n (zat l s.ents)=some (.box l):=by
          rcases zkk n l s.ents with h1 | h1<;>rw[h1,hl]; rfl
        obtain ⟨g1,hat⟩:=gf.sealed hl' hc
        obtain ⟨a1,e1,h1,_⟩:=hb
        cases e1
        obtain ⟨q,h2,h3⟩:=h1 (by show (look n s.ents).isSome=true; rw[hl]; rfl)
        refine ⟨g1,⟨q,0,h3,hat q h2⟩,fun q o ds hd=>?_⟩
        have step:∀ (m:List A1) (s0:St),(cx C s0 β w).za8 q o ds→(cx C ⟨s0.env,zat m s0.ents⟩ β w).za8 q o ds:=by
          intro m
          induction m with
          | nil=>intro s0 h; exact h
          | cons c r ih =>
            intro s0 h
            refine ih ⟨s0.env,c.freeze s0.ents⟩ ?_
            cases c<;>simp only[A1.freeze]<;>first | exact h | exact (zn8 _).za8 h
        exact (zCH n cs).za8 (step l s hd)
      · cases h
    · cases h
  · cases h
theorem zms:∀ {xs:List Operand} {s s':St} {css:List (List Cell)},Gam C s X β a.tmps w→sealCaps s xs=some (css,s')→(∀ x∈xs,∀ t,x = .tmp t→¬ X t) →
    Gam C s' X β a.tmps w∧css.length=xs.length∧(∀ (i:Nat) (cs:List Cell) (x:Operand),css[i]? = some cs→xs[i]? = some x→∃ q o,a.eval x = .pointer (some ⟨q,o,none⟩)∧(cx C s' β w).za8 q o cs) ∧
    ∀ q o ds,(cx C s β w).za8 q o ds→(cx C s' β w).za8 q o ds
  | [],s,s',css,g,h,_=>by
    cases h
    exact ⟨g,rfl,fun i cs x h=>by simp at h,fun _ _ _ h=>h⟩
  | x :: r,s,s',css,g,h,hx=>by
    unfold sealCaps at h
    split at h
    · rename_i cs1 s1 h1
      split at h
      · rename_i css2 s2 h2
        cases h
        obtain ⟨g1,⟨q,o,hv,hat⟩,k1⟩:=seal1_ok g h1 (zkI g (hx x (List.mem_cons_self ..)))
        obtain ⟨g2,hlen,hall,k2⟩:=zms g1 h2 fun z hz=>hx z (List.mem_cons_of_mem _ hz)
        refine ⟨g2,by simp[hlen],fun i cs z hc hz=>?_,fun q o ds h=>k2 q o ds (k1 q o ds h)⟩
        cases i with
        | zero=>simp at hc hz; subst hc; subst hz; exact ⟨q,o,hv,k2 _ _ _ hat⟩
        | succ i=>exact hall i cs z (by simpa using hc) (by simpa using hz)
      · cases h
    · cases h
theorem znG {f:FuncId} {first caps:Array Operand} (ho:o.op = .makeFunc (.func f) first caps) (g:Gam C s X β a.tmps w) (hx:∀ t,Operand.tmp t∈o.op.operands→¬ X t) (hy:(evalOp lay cons o s).Yields (av,s')) (hK:Goes C X o a av s' K):o.wp P a w K Q:=by
  simp only[evalOp,ho] at hy
  split at hy
  · rename_i css s1 hf hc
    cases hy
    obtain ⟨g1,hlen,hall,_⟩:=zms (a:=a) g hc fun x hm t ht=>hx t (by rw[ho,← ht]; simp[Op.operands]; exact .inr (by simpa using hm))
    have hf0:first=#[]:=Array.ext' hf
    subst hf0
    refine zak (v := .func (.func f) #[] (caps.map a.eval)) (by simp[execOp,ho,Instr.makeFunc]) g1 (zbW (a := .fn f css) ⟨_,rfl,by simpa using hlen.symm,fun i cs hi=>?_⟩ rfl) hK
    have hlt:i < caps.toList.length:=by rw[← hlen]; exact (List.getElem?_eq_some_iff.1 hi).1
    obtain ⟨q,o,h1,h2⟩:=hall i cs _ hi (List.getElem?_eq_getElem hlt)
    refine ⟨q,o,?_,h2⟩
    have hlt':i < caps.size:=by simpa using hlt
    simp only[Array.getElem?_map,Array.getElem?_eq_getElem hlt',Option.map_some]
    rw[← h1]; simp
  · exact hy.elim
end
end Go.Di
open Go.RowKit (Below)
namespace Go.Di
def zzQ (m n:Nat) (oe:Option Ent) (s:St):List (Nat × Ent):=put PN (.pool n) (match oe with
  | none=>(s.free m).ents
  | some e=>put m e (s.free m).ents)
theorem zhe {m n k:Nat} {oe:Option Ent} {s:St}:look k (zzQ m n oe s)=if k=PN then some (.pool n) else if k=m then oe else (look k s.ents).map (Ent.kill m):=by
  unfold zzQ
  rw[za6]
  split
  · rfl
  · cases oe with
    | none=>rw[za3]
    | some e =>
      rw[za6,za3]
      split<;>rfl
theorem zEV {m:Nat} (hm:m % 64≠63):PN≠m:=fun h=>hm (h▸by decide)
section
variable {C:Bs} {w:World} {s:St} {X:Nat→Prop} {β:Nat→Option Value} {tm:Array Value}
theorem Gam.zJi (g:Gam C s X β tm w) {m n n':Nat} {e0:Ent} {oe:Option Ent} {u0 v1:Value} {us ws:List Value} (hm:m % 64≠63) (hl:look m s.ents=some e0) (hmut:e0.mut=true) (hu:β m=some u0)
    (hp:look PN s.ents=some (.pool n)) (hpv:β PN=some (.tuple us.toArray)) (_hoe:∀ e1,oe=some e1→∀ l,e1 ≠ .box l)  (_hod:∀ e1,oe=some e1→∀ fr t xs,e1 ≠ .deep fr t xs)
    (htop:∀ b∈ws.flatMap zaN,b∈zao u0) (htop1:∀ e1,oe=some e1→∀ b∈zao v1,b∈zao u0∧b ∉ ws.flatMap zaN)
    (hpool:∀ y:Cx,y.w=w→zh6 y n' (.tuple (us++ws).toArray))
    (hent:Le (cx C s β w) (cx C ⟨(s.free m).env,zzQ m n' oe s⟩ (upd (upd β m v1) PN (.tuple (us++ws).toArray)) w) (·≠m)→∀ e1,oe=some e1 →
      EntOk (cx C ⟨(s.free m).env,zzQ m n' oe s⟩ (upd (upd β m v1) PN (.tuple (us++ws).toArray)) w) e1 v1) :
    Gam C ⟨(s.free m).env,zzQ m n' oe s⟩ X (upd (upd β m v1) PN (.tuple (us++ws).toArray)) tm w ∧
      Le (cx C s β w) (cx C ⟨(s.free m).env,zzQ m n' oe s⟩ (upd (upd β m v1) PN (.tuple (us++ws).toArray)) w) (·≠m):=by
  have hPm:PN≠m:=zEV hm
  have hmP:m≠PN:=fun h=>hPm h.symm
  have bP:upd (upd β m v1) PN (.tuple (us++ws).toArray) PN=some (.tuple (us++ws).toArray):=upd_same ..
  have bm:upd (upd β m v1) PN (.tuple (us++ws).toArray) m=some v1:=by rw[zaw _ _ hmP,upd_same]
  have bo:∀ k,k≠PN→k≠m→upd (upd β m v1) PN (.tuple (us++ws).toArray) k=β k:=fun k h1 h2=>by rw[zaw _ _ h1,zaw _ _ h2]
  have hC:C.tk=none:=by
    cases h:C.tk with
    | none=>rfl
    | some π=>have:=(g.tk π h).2; rw[hp] at this; cases this
  have hCp:C.pin PN=none:=by
    cases h:C.pin PN with
    | none=>rfl
    | some v=>exact absurd rfl (g.np PN (by rw[h]; rfl)).2
  have old:∀ k f,k≠PN→k≠m→look k (zzQ m n' oe s)=some f→∃ f0,look k s.ents=some f0∧f=f0.kill m:=fun k f h1 h2 h=>by
    rw[zhe,if_neg h1,if_neg h2] at h
    cases h0:look k s.ents with
    | none=>rw[h0] at h; cases h
    | some f0=>rw[h0] at h; cases h; exact ⟨f0,rfl,rfl⟩
  have usT:∀ b,b∈us.flatMap zaN→b∈zao (.tuple us.toArray):=fun b hb=>by simpa [zao] using hb
  have own:∀ k f u b,look k (zzQ m n' oe s)=some f→f.mut=true→upd (upd β m v1) PN (.tuple (us++ws).toArray) k=some u→b∈zao u →
      (k=PN∧(b∈us.flatMap zaN∨b∈ws.flatMap zaN))∨(k=m∧b∈zao u0∧b ∉ ws.flatMap zaN)∨(k≠PN∧k≠m∧∃ f0,look k s.ents=some f0∧f0.mut=true∧f=f0.kill m∧β k=some u):=by
    intro k f u b h1 h2 h3 h4
    by_cases hk:k=PN
    · subst hk
      rw[bP] at h3; cases h3
      left
      refine ⟨rfl,?_⟩
      have:b∈(us++ws).flatMap zaN:=by simpa [zao] using h4
      rw[List.flatMap_append,List.mem_append] at this
      exact this
    · by_cases hkm:k=m
      · subst hkm
        rw[bm] at h3; cases h3
        rw[zhe,if_neg hk,if_pos rfl] at h1
        obtain ⟨q1,q2⟩:=htop1 f h1 b h4
        exact .inr (.inl ⟨rfl,q1,q2⟩)
      · obtain ⟨f0,q1,rfl⟩:=old k f hk hkm h1
        rw[bo k hk hkm] at h3
        exact .inr (.inr ⟨hk,hkm,f0,q1,by rwa [zdq] at h2,rfl,h3⟩)
  have hTop:∀ b,Top (fun k=>look k (zzQ m n' oe s)) (upd (upd β m v1) PN (.tuple (us++ws).toArray)) b→Top (fun k=>look k s.ents) β b:=by
    rintro b ⟨k,f,u,h1,h2,h3,h4⟩
    rcases own k f u b h1 h2 h3 h4 with ⟨_,h | h⟩ | ⟨_,h,_⟩ | ⟨_,_,f0,q1,q2,_,q3⟩
    · exact ⟨PN,_,_,hp,rfl,hpv,usT b h⟩
    · exact ⟨m,e0,u0,hl,hmut,hu,htop b h⟩
    · exact ⟨m,e0,u0,hl,hmut,hu,h⟩
    · exact ⟨k,f0,u,q1,q2,q3,h4⟩
  have hle : Le (cx C s β w) (cx C ⟨(s.free m).env,zzQ m n' oe s⟩ (upd (upd β m v1) PN (.tuple (us++ws).toArray)) w) (·≠m):=by
    refine ⟨fun _ h=>h,fun _ _ _=>rfl,Nat.le_refl _,fun b _ _ h=>hTop b h,fun k hk=>?_,fun k hk _ fr t xs h=>?_,fun i v h=>?_⟩
    · simp only[cx]
      rw[zhe]
      by_cases hkP:k=PN
      · subst hkP
        rw[if_pos rfl]
        right; right; right
        refine ⟨n,n',_,_,hp,rfl,hpv,bP,fun i v h=>?_⟩
        have h':us[i]? = some v:=by simpa using h
        have:=(List.getElem?_eq_some_iff.1 h').1
        simp[List.getElem?_append_left this,h']
      · rw [if_neg hkP,if_neg hk,bo k hkP hk]
        cases h0:look k s.ents with
        | none=>left; rfl
        | some f =>
          right; left; refine ⟨rfl,?_⟩
          cases f with
          | box l=>right; left; exact ⟨l,zdL m l,rfl,rfl⟩
          | arr fr t xs=>left; rfl
          | deep fr t xs=>left; rfl
          | pool q=>left; rfl
    · have h:look k (zzQ m n' oe s)=some (.deep fr t xs):=h
      by_cases hkP:k=PN
      · subst hkP; rw[zhe,if_pos rfl] at h; cases h
      · obtain ⟨f0,q1,q2⟩:=old k _ hkP hk h
        refine ⟨fr,?_,bo k hkP hk⟩
        show look k s.ents=_
        rw[q1]
        cases f0 with
        | deep fr' t' xs'=>exact congrArg some q2.symm
        | box l=>cases q2
        | arr _ _ _=>cases q2
        | pool _=>cases q2
    · simp only[cx,zd5,hpv,bP] at h ⊢
      have h':us[i]? = some v:=by simpa using h
      have:=(List.getElem?_eq_some_iff.1 h').1
      simp[List.getElem?_append_left this,h']
  refine ⟨⟨by simp[St.free,zea,g.len],fun t av hx h=>?_,fun k f u h1 h2=>?_,fun k1 k2 f1 f2 u1 u2 b h1 h2 h3 h4 h5 h6 h7 h8=>?_,fun b h=>g.fresh b (hTop b h),g.kb,g.below,fun k u hpk hlk=>?_,g.np,fun k f h=>?_,g.fx,fun π hπ=>by rw[hC] at hπ; cases hπ⟩,hle⟩
  · simp only[St.free,zeh] at h
    cases h0:s.env[t]? with
    | none=>simp[h0] at h
    | some a0 =>
      simp[h0] at h; subst h
      exact hle.av (zeb m a0) ((g.env t a0 hx h0).kill m)
  · by_cases hk:k=PN
    · subst hk
      rw[zhe,if_pos rfl] at h1; cases h1
      rw[bP] at h2; cases h2
      exact hpool _ rfl
    · by_cases hkm:k=m
      · subst hkm
        rw[zhe,if_neg hk,if_pos rfl] at h1
        rw[bm] at h2; cases h2
        exact hent hle f h1
      · obtain ⟨f0,q1,rfl⟩:=old k f hk hkm h1
        rw[bo k hk hkm] at h2
        exact EntOk.le hle (zdN m f0) (fun _ _ _=>rfl) ((g.ents k f0 u q1 h2).kill m)
  · have q1:=own k1 f1 u1 b h1 h3 h5 h7
    have q2:=own k2 f2 u2 b h2 h4 h6 h8
    have pm:∀ b,b∈us.flatMap zaN→b∈zao u0→False:=fun b a1 a2=>hPm (g.uniq PN m _ _ _ _ b hp hl rfl hmut hpv hu (usT b a1) a2)
    have po:∀ k f0 u,k≠PN→look k s.ents=some f0→f0.mut=true→β k=some u→b∈zao u→b∈us.flatMap zaN→False:=fun k f0 u a1 a2 a3 a4 a5 a6=>a1 (g.uniq k PN _ _ _ _ b a2 hp a3 rfl a4 hpv a5 (usT b a6))
    have mo:∀ k f0 u,k≠m→look k s.ents=some f0→f0.mut=true→β k=some u→b∈zao u→b∈zao u0→False:=fun k f0 u a1 a2 a3 a4 a5 a6=>a1 (g.uniq k m _ _ _ _ b a2 hl a3 hmut a4 hu a5 a6)
    rcases q1 with ⟨e1,h | h⟩ | ⟨e1,h,hn⟩ | ⟨n1,n2,f0,r1,r2,_,r3⟩<;>rcases q2 with ⟨e2,h' | h'⟩ | ⟨e2,h',hn'⟩ | ⟨n1',n2',f0',r1',r2',_,r3'⟩
    · rw[e1,e2]
    · rw[e1,e2]
    · exact (pm b h h').elim
    · exact (po k2 f0' u2 n1' r1' r2' r3' h8 h).elim
    · rw[e1,e2]
    · rw[e1,e2]
    · exact absurd h hn'
    · exact (mo k2 f0' u2 n2' r1' r2' r3' h8 (htop b h)).elim
    · exact (pm b h' h).elim
    · exact absurd h' hn
    · rw[e1,e2]
    · exact (mo k2 f0' u2 n2' r1' r2' r3' h8 h).elim
    · exact (po k1 f0 u1 n1 r1 r2 r3 h7 h').elim
    · exact (mo k1 f0 u1 n2 r1 r2 r3 h7 (htop b h')).elim
    · exact (mo k1 f0 u1 n2 r1 r2 r3 h7 h').elim
    · exact g.uniq k1 k2 f0 f0' u1 u2 b r1 r1' r2 r2' r3 r3' h7 h8
  · have hkP:k≠PN:=fun e=>by rw[e,hCp] at hpk; cases hpk
    have hkm:k≠m:=fun e=>hm (by rw[← e]; exact (g.np k (by rw[hpk]; rfl)).1)
    rw[bo k hkP hkm]
    refine g.pin k u hpk ?_
    have hlk:(look k (zzQ m n' oe s)).isSome:=hlk
    rw[zhe,if_neg hkP,if_neg hkm] at hlk
    cases h0:look k s.ents with
    | none=>rw[h0] at hlk; cases hlk
    | some f=>rfl
  · by_cases hkP:k=PN
    · subst hkP; rw[bP]; rfl
    · by_cases hkm:k=m
      · subst hkm; rw[bm]; rfl
      · obtain ⟨f0,q1,_⟩:=old k f hkP hkm h
        rw[bo k hkP hkm]; exact g.bs k f0 q1
/-! ### Values behind it -/
theorem A1Ok.sub {x y:Cx} {m:Nat} {dp:Bool} {b:A1} (hle:Le x y (·≠m)) (h1:dp=false→∀ v,A1Ok x (.own m) v→A1Ok y b v) (h2:dp=true→∀ v,A1Ok x (.dp m) v→A1Ok y b v) {a:A1} {v:Value} (ha:A1Ok x a v):A1Ok y (a.sub m dp b) v:=by
  have other:A1Ok y (a.kill m) v:=hle.a1 (zmQ m a) (ha.kill m)
  cases a with
  | own k =>
    simp only[A1.sub]
    split
    · rename_i hk
      have hk:=Nat.eq_of_beq_eq_true hk
      subst hk
      cases dp with
      | true=>trivial
      | false=>exact h1 rfl v ha
    · rename_i hk
      exact hle.a1 (a := .own k) (fun e=>by subst e; simp at hk) ha
  | dp k =>
    simp only[A1.sub]
    split
    · rename_i hk
      have hk:=Nat.eq_of_beq_eq_true hk
      subst hk
      cases dp with
      | true=>exact h2 rfl v ha
      | false=>trivial
    · rename_i hk
      exact hle.a1 (a := .dp k) (fun e=>by subst e; simp at hk) ha
  | _=>exact other
theorem zcm.sub {x y:Cx} {m:Nat} {dp:Bool} {b:A1} (hle:Le x y (·≠m)) (h1:dp=false→∀ v,A1Ok x (.own m) v→A1Ok y b v) (h2:dp=true→∀ v,A1Ok x (.dp m) v→A1Ok y b v):∀ {l:List A1} {vs:List Value},zcm x l vs→zcm y (zMJ m dp b l) vs
  | [],[],_=>trivial
  | _ :: _,_ :: _,⟨k1,k2,k3⟩=>⟨k1.sub hle h1 h2,k2,zcm.sub hle h1 h2 k3⟩
  | [],_ :: _,h=>h.elim
  | _ :: _,[],h=>h.elim
theorem VOk.sub {x y:Cx} {m:Nat} {dp:Bool} {b:A1} (hle:Le x y (·≠m)) (h1:dp=false→∀ v,A1Ok x (.own m) v→A1Ok y b v) (h2:dp=true→∀ v,A1Ok x (.dp m) v→A1Ok y b v) {gg:Bool} {l:List A1} {v:Value} (h:VOk x gg l v):VOk y gg (zMJ m dp b l) v:=by
  cases gg with
  | true=>obtain ⟨vs,k1,k2⟩:=h; exact ⟨vs,k1,zcm.sub hle h1 h2 k2⟩
  | false =>
    obtain ⟨a,rfl,k2,k3⟩:=h
    refine ⟨a.sub m dp b,rfl,k2.sub hle h1 h2,?_⟩
    rcases k3 with rfl | k3
    · exact .inl rfl
    · exact .inr k3
theorem zkC.sub {x y:Cx} {m:Nat} {dp:Bool} {b:A1} (hle:Le x y (·≠m)) (h1:dp=false→∀ v,A1Ok x (.own m) v→A1Ok y b v) (h2:dp=true→∀ v,A1Ok x (.dp m) v→A1Ok y b v):∀ {l:List (Bool × List A1)} {vs:List Value},zkC x l vs→zkC y (zPa m dp b l) vs
  | [],[],_=>trivial
  | (_,_) :: _,_ :: _,⟨k1,k2⟩=>⟨k1.sub hle h1 h2,zkC.sub hle h1 h2 k2⟩
  | [],_ :: _,h=>h.elim
  | _ :: _,[],h=>h.elim
theorem zaS.sub {x y:Cx} {m:Nat} {dp:Bool} {b:A1} (hle:Le x y (·≠m)) (h1:dp=false→∀ v,A1Ok x (.own m) v→A1Ok y b v) (h2:dp=true→∀ v,A1Ok x (.dp m) v→A1Ok y b v) {a:AV} {v:Value} (h:zaS x a v):zaS y (a.sub m dp b) v:=by
  cases a with
  | v g l=>exact VOk.sub hle h1 h2 h
  | tup ps=>obtain ⟨vs,k1,k2⟩:=h; exact ⟨vs,k1,zkC.sub hle h1 h2 k2⟩
/-! ### The contents of the pool -/
theorem zqb (xs:List Int):zaN (encI xs)=[]:=rfl
def zfm:List Value→List ST.rat.El→List Value
  | _ :: a :: b :: us,r :: l=>a :: encI (Rt.mag r) :: b :: encI (Rt.den r) :: zfm us l
  | _,_=>[]
theorem zlN:∀ {us:List Value} {l:List ST.rat.El},us.length=3 * l.length→(zfm us l).length=4 * l.length
  | [],[],_=>rfl
  | _ :: _ :: _ :: us,r :: l,h=>by
    have:=zlN (us:=us) (l:=l) (by simp at h; omega)
    simp only[zfm,List.length_cons]
    omega
  | [],_ :: _,h=>by simp at h
  | [_],_ :: _,h=>by simp at h; omega
  | [_,_],_ :: _,h=>by simp at h; omega
  | _ :: _,[],h=>by simp at h
theorem zgD:∀ {us:List Value} {l:List ST.rat.El} {b:Nat},b∈(zfm us l).flatMap zaN→b∈us.flatMap zaN
  | _ :: a :: c :: us,r :: l,b,h=>by
    simp only[zfm,List.flatMap_cons,zqb,List.nil_append,List.mem_append] at h ⊢
    rcases h with h | h | h
    · exact .inr (.inl h)
    · exact .inr (.inr (.inl h))
    · exact .inr (.inr (.inr (zgD h)))
  | [],_,b,h=>by simp[zfm] at h
  | [_],_,b,h=>by simp[zfm] at h
  | [_,_],_,b,h=>by simp[zfm] at h
  | _ :: _ :: _ :: _,[],b,h=>by simp[zfm] at h
theorem zmD:∀ {us:List Value} {l:List ST.rat.El},(us.flatMap zaN).Nodup→((zfm us l).flatMap zaN).Nodup
  | _ :: a :: c :: us,r :: l,h=>by
    simp only[zfm,List.flatMap_cons,zqb,List.nil_append] at h ⊢
    obtain ⟨_,h,_⟩:=List.nodup_append.1 h
    obtain ⟨h1,h,h2⟩:=List.nodup_append.1 h
    obtain ⟨h3,h4,h5⟩:=List.nodup_append.1 h
    refine List.nodup_append.2 ⟨h1,List.nodup_append.2 ⟨h3,zmD h4,fun x hx y hy=>h5 x hx y (zgD hy)⟩,fun x hx y hy=>?_⟩
    refine h2 x hx y ?_
    rcases List.mem_append.1 hy with hy | hy
    · exact List.mem_append_left _ hy
    · exact List.mem_append_right _ (zgD hy)
  | [],_,_=>by simp[zfm]
  | [_],_,_=>by simp[zfm]
  | [_,_],_,_=>by simp[zfm]
  | _ :: _ :: _ :: _,[],_=>by simp[zfm]
theorem zqq:∀ {us:List Value} {l:List ST.rat.El} {n i:Nat} {c:Cell},us.length=3 * l.length→(flat .trat (zp7 n l))[i]? = some c →
    (∃ b,c = .bool b∧(flat .rat l)[i]? = some (.bool b))∨∃ k:Tk,c = .tok k∧(flat .rat l)[i]? = some (.sl .int k.xs)∧n≤k.id∧k.id < n+2 * l.length∧∃ u,us[i]? = some u∧(zfm us l)[2 * (k.id - n)]? = some u∧(zfm us l)[2 * (k.id - n)+1]? = some (encI k.xs)
  | x :: a :: c0 :: us,r :: l,n,i,c,hl,h=>by
    have h':(Cell.bool (Rt.neg r) :: .tok ⟨n,Rt.mag r⟩ :: .tok ⟨n+1,Rt.den r⟩ :: flat .trat (zp7 (n+2) l))[i]? = some c:=h
    have e:flat .rat (r :: l)=Cell.bool (Rt.neg r) :: .sl .int (Rt.mag r) :: .sl .int (Rt.den r) :: flat .rat l:=rfl
    rw[e]
    simp only[zfm,List.length_cons]
    rcases i with _ | _ | _ | i
    · simp at h'; subst h'; exact .inl ⟨_,rfl,rfl⟩
    · simp at h'; subst h'
      exact .inr ⟨_,rfl,rfl,Nat.le_refl _,by simp only[]; omega,a,rfl,by simp,by simp⟩
    · simp at h'; subst h'
      refine .inr ⟨_,rfl,rfl,by simp,by simp only[]; omega,c0,rfl,?_,?_⟩
      · show _[2 * (n+1 - n)]? = _
        rw[show 2 * (n+1 - n)=2 from by omega]; rfl
      · show _[2 * (n+1 - n)+1]? = _
        rw[show 2 * (n+1 - n)+1=3 from by omega]; rfl
    · have h2:(flat .trat (zp7 (n+2) l))[i]? = some c:=by simpa using h'
      rcases zqq (us:=us) (by simp at hl; omega) h2 with ⟨b,q1,q2⟩ | ⟨k,q1,q2,q3,q4,u,q5,q6,q7⟩
      · exact .inl ⟨b,q1,by simpa using q2⟩
      · refine .inr ⟨k,q1,by simpa using q2,by omega,by omega,u,by simpa using q5,?_,?_⟩
        · rw[show 2 * (k.id - n)=2 * (k.id - (n+2))+4 from by omega]; simpa using q6
        · rw[show 2 * (k.id - n)+1=2 * (k.id - (n+2))+1+4 from by omega]; simpa using q7
  | _,[],n,i,c,_,h=>by
    have h':([]:List Cell)[i]? = some c:=h
    simp at h'
  | [],_ :: _,_,_,_,h,_=>by simp at h
  | [_],_ :: _,_,_,_,h,_=>by simp at h; omega
  | [_,_],_ :: _,_,_,_,h,_=>by simp at h; omega
theorem zqp {p:Value→List Int→Prop}:∀ {us:List Value} {l:List ST.rat.El},us.length=3 * l.length→(∀ (i:Nat) ys u,(flat .rat l)[i]? = some (.sl .int ys)→us[i]? = some u→p u ys) →
    ∀ j,j < 2 * l.length→∃ u ys,(zfm us l)[2 * j]? = some u∧(zfm us l)[2 * j+1]? = some (encI ys)∧p u ys
  | x :: a :: c0 :: us,r :: l,hl,h,j,hj=>by
    have e:flat .rat (r :: l)=Cell.bool (Rt.neg r) :: .sl .int (Rt.mag r) :: .sl .int (Rt.den r) :: flat .rat l:=rfl
    simp only[zfm]
    rcases j with _ | _ | j
    · exact ⟨a,Rt.mag r,rfl,rfl,h 1 _ _ rfl rfl⟩
    · exact ⟨c0,Rt.den r,rfl,rfl,h 2 _ _ rfl rfl⟩
    · obtain ⟨u,ys,k1,k2,k3⟩:=zqp (us:=us) (l:=l) (p:=p) (by simp at hl; omega) (fun i ys u h1 h2=>h (i+3) ys u (by rw[e]; simpa using h1) (by simpa using h2)) j (by simp at hj; omega)
      refine ⟨u,ys,?_,?_,k3⟩
      · rw[show 2 * (j+1+1)=2 * j+4 from by omega]; simpa using k1
      · rw[show 2 * (j+1+1)+1=2 * j+1+4 from by omega]; simpa using k2
  | _,[],_,_,j,hj=>by simp at hj
  | [],_ :: _,h,_,_,_=>by simp at h
  | [_],_ :: _,h,_,_,_=>by simp at h; omega
  | [_,_],_ :: _,h,_,_,_=>by simp at h; omega
theorem OwnI.slice {x:Cx} {xs:List Int} {v:Value} (h:OwnI x xs v):∃ a len cap,v = .slice a len cap:=by
  rcases h with ⟨_,a,rfl⟩ | ⟨g,cap,_,_,rfl,_⟩
  · exact ⟨_,_,_,rfl⟩
  · exact ⟨_,_,_,rfl⟩
theorem zsZ {v:Value} (h:∃ a len cap,v = .slice a len cap) {b:Nat} (hb:b∈zao v):b∈zaN v:=by
  obtain ⟨a,len,cap,rfl⟩:=h
  cases a<;>cases len<;>cases cap<;>first | exact hb | (simp[zao] at hb)
theorem zFQ {x:Cx} {xs:List ST.rat.El} {s:Value} {us:List Value} (h:DeepTop x .rat xs s us):∀ (i:Nat) ys u,(flat .rat xs)[i]? = some (.sl .int ys)→us[i]? = some u→OwnI x ys u:=by
  intro i ys u h1 h2
  rcases h with ⟨rfl,_⟩ | ⟨g,cap,cur,T,k1,k2,k3,k4,k5,k6,k7⟩
  · have h':([]:List Cell)[i]? = some (.sl .int ys):=h1
    simp at h'
  · obtain ⟨u',b,q1,q2,q3⟩:=k7 i _ h1
    rw[h2] at q2; cases q2
    have q4:u=u':=q3.1
    rw[q4]; exact q3.2
theorem zmO:∀ (n:Nat) (l:List Rt),(zp7 n l).length=l.length
  | _,[]=>rfl
  | n,_ :: l=>by simp[zp7,zmO (n+2) l]
theorem sink1_ok (g:Gam C s X β tm w) {av:AV} {v:Value} (hav:zaS (cx C s β w) av v) {m:Nat} (hm:m % 64≠63) :
    ∃ β',Gam C (zoM m (av,s)).2 X β' tm w∧zaS (cx C (zoM m (av,s)).2 β' w) (zoM m (av,s)).1 v:=by
  have val:∀ k e,look k s.ents=some e→∃ u,β k=some u:=fun k e h=>by
    have:=g.bs k e h
    cases hb:β k with
    | none=>rw[hb] at this; cases this
    | some u=>exact ⟨u,rfl⟩
  unfold zoM
  split
  · rename_i xs n hl hp
    obtain ⟨u0,hu⟩:=val m _ hl
    obtain ⟨p0,hpv⟩:=val PN _ hp
    obtain ⟨us,rfl,h2,h3,h4⟩:=g.ents PN _ _ hp hpv
    have ho:OwnI (cx C s β w) xs u0:=g.ents m _ _ hl hu
    have hei:zaN (encI xs)=[]:=rfl
    have hws:∀ b∈[u0,encI xs].flatMap zaN,b∈zaN u0:=fun b hb=>by simpa [hei] using hb
    obtain ⟨G,hle⟩:=g.zJi (n':=n+1) (oe:=none) (v1:=undef) (ws:=[u0,encI xs]) hm hl rfl hu hp hpv (fun _ h=>by cases h) (fun _ h=>by cases h) (fun b hb=>zfG (hws b hb)) (fun _ h=>by cases h) (fun y hy=>by
      refine ⟨us++[u0,encI xs],rfl,by simp[h2]; omega,?_,fun i hi=>?_⟩
      · rw[List.flatMap_append]
        refine List.nodup_append.2 ⟨h3,by simpa [hei] using zd8 u0,fun a ha b hb e=>?_⟩
        subst e
        exact zEV hm (g.uniq PN m _ _ _ _ a hp hl rfl rfl hpv hu (by simpa [zao] using ha) (zfG (hws a hb)))
      · by_cases h:i < n
        · obtain ⟨u,ys,k1,k2,k3⟩:=h4 i h
          exact ⟨u,ys,by rw[List.getElem?_append_left (by omega)]; exact k1,by rw[List.getElem?_append_left (by omega)]; exact k2,k3.go fun b _=>by rw[hy]; rfl⟩
        · have:i=n:=by omega
          subst this
          refine ⟨u0,xs,?_,?_,ho.go fun b _=>by rw[hy]; rfl⟩
          · rw[List.getElem?_append_right (by omega),h2,Nat.sub_self]; rfl
          · rw[List.getElem?_append_right (by omega),h2,show 2 * i+1 - 2 * i=1 from by omega]; rfl) (fun _ _ h=>by cases h)
    refine ⟨_,G,hav.sub hle (fun _ v hv=>?_) (fun h=>by cases h)⟩
    have hv':β m=some v:=hv false .int xs hl
    rw[hu] at hv'; cases hv'
    obtain ⟨a,len,cap,rfl⟩:=ho.slice
    refine ⟨[],.tok a len cap ⟨n,xs⟩ ?_ ?_,fun b hb=>by cases hb⟩
    · simp only[cx,zd5,upd_same]
      simp[h2]
    · simp only[cx,zd5,upd_same]
      simp[h2]
  · rename_i xs n hl hp
    obtain ⟨u0,hu⟩:=val m _ hl
    obtain ⟨p0,hpv⟩:=val PN _ hp
    obtain ⟨us,rfl,h2,h3,h4⟩:=g.ents PN _ _ hp hpv
    obtain ⟨sv,vs,rfl,q2,q3,_,q5⟩:=g.ents m _ _ hl hu
    have q2:vs.length=3 * xs.length:=by rw[q2,Nat.mul_comm]; rfl
    have hT:zao (.tuple (sv :: vs).toArray)=zaN sv++vs.flatMap zaN:=by simp[zao]
    rw[List.flatMap_cons] at q3
    obtain ⟨r1,r2,r3⟩:=List.nodup_append.1 q3
    have hsl:∃ a len cap,sv = .slice a len cap:=by
      rcases q5 with ⟨_,a,rfl⟩ | ⟨_,_,_,_,rfl,_⟩<;>exact ⟨_,_,_,rfl⟩
    have hown:=zFQ q5
    obtain ⟨G, hle⟩:=g.zJi (n':=n+2 * xs.length) (oe:=some (.arr false .trat (zp7 n xs))) (v1:=sv) (ws:=zfm vs xs) hm hl rfl hu hp hpv (fun _ h l=>by cases h; intro h; cases h) (fun _ h _ _ _=>by cases h; intro h; cases h)
      (fun b hb=>by rw[hT]; exact List.mem_append_right _ (zgD hb))
      (fun e1 _ b hb=>by
        have hb:=zsZ hsl hb
        exact ⟨by rw[hT]; exact List.mem_append_left _ hb,fun hc=>r3 b hb b (zgD hc) rfl⟩)
      (fun y hy=>by
        have hlw:=zlN q2
        refine ⟨us++zfm vs xs,rfl,by rw[List.length_append,h2,hlw]; omega,?_,fun i hi=>?_⟩
        · rw[List.flatMap_append]
          refine List.nodup_append.2 ⟨h3,zmD r2,fun a ha b hb e=>?_⟩
          subst e
          exact zEV hm (g.uniq PN m _ _ _ _ a hp hl rfl rfl hpv hu (by simpa [zao] using ha) (by rw[hT]; exact List.mem_append_right _ (zgD hb)))
        · by_cases h:i < n
          · obtain ⟨u,ys,k1,k2,k3⟩:=h4 i h
            exact ⟨u,ys,by rw[List.getElem?_append_left (by omega)]; exact k1,by rw[List.getElem?_append_left (by omega)]; exact k2,k3.go fun b _=>by rw[hy]; rfl⟩
          · obtain ⟨u,ys,k1,k2,k3⟩:=zqp (p:=fun u ys=>OwnI (cx C s β w) ys u) q2 hown (i - n) (by omega)
            refine ⟨u,ys,?_,?_,k3.go fun b _=>by rw[hy]; rfl⟩
            · rw[List.getElem?_append_right (by omega),h2,show 2 * i - 2 * n=2 * (i - n) from by omega]; exact k1
            · rw[List.getElem?_append_right (by omega),h2,show 2 * i+1 - 2 * n=2 * (i - n)+1 from by omega]; exact k2)
      (fun hle e1 h=>by
        cases h
        have hlt:(zp7 n xs).length=xs.length:=zmO n xs
        rcases q5 with ⟨rfl,a,rfl⟩ | ⟨gb,cap,cur,T,k1,k2,k3,k4,k5,k6,k7⟩
        · exact .inl ⟨rfl,a,rfl⟩
        · refine .inr ⟨gb,cap,cur,T,k1.trans (congrArg (fun l=>Value.slice _ l cap) hlt.symm),k2,Nat.le_trans (Nat.le_of_eq hlt) k3,k4,k5,k6,fun i c hc=>?_⟩
          rcases zqq q2 hc with ⟨b,rfl,z1⟩ | ⟨k,rfl,z1,z2,z3,u,z4,z5,z6⟩
          · obtain ⟨u,b',y1,_,y3⟩:=k7 i _ z1
            exact ⟨u,y1,zfv y3.2 trivial⟩
          · obtain ⟨u',b',y1,y2,y3⟩:=k7 i _ z1
            rw[z4] at y2; cases y2
            have y4:u=u':=y3.1
            subst y4
            obtain ⟨a,len,cap',rfl⟩:=(y3.2:OwnI _ _ _).slice
            refine ⟨_,y1,[],.tok a len cap' k ?_ ?_,fun b hb=>by cases hb⟩
            · simp only[cx,zd5,upd_same]
              have:(us++zfm vs xs)[2 * k.id]? = some (.slice a len cap'):=by
                rw[List.getElem?_append_right (by omega),h2,show 2 * k.id - 2 * n=2 * (k.id - n) from by omega]; exact z5
              simpa using this
            · simp only[cx,zd5,upd_same]
              have:(us++zfm vs xs)[2 * k.id+1]? = some (encI k.xs):=by
                rw[List.getElem?_append_right (by omega),h2,show 2 * k.id+1 - 2 * n=2 * (k.id - n)+1 from by omega]; exact z6
              simpa using this)
    refine ⟨_,G,hav.sub hle (fun h=>by cases h) (fun _ v hv=>?_)⟩
    obtain ⟨vs',z1,z2⟩:=hv (by simp[cx,hl])
    rw[show (cx C s β w).β m=β m from rfl,hu] at z1; cases z1
    have z3:sv=v:=by simpa using z2
    subst z3
    intro _ _ _ _
    show upd (upd β m sv) PN _ m=some sv
    rw[zaw _ _ (fun h=>zEV hm h.symm),upd_same]
  · exact ⟨β,g,hav⟩
theorem zoL {w:World} {v:Value}:∀ {l:List Nat} {p:AV × St} {β:Nat→Option Value},Gam C p.2 X β tm w→zaS (cx C p.2 β w) p.1 v→(∀ m∈l,m % 64≠63)→∃ β',Gam C (zte l p).2 X β' tm w∧zaS (cx C (zte l p).2 β' w) (zte l p).1 v
  | [],_,β,g,h,_=>⟨β,g,h⟩
  | m :: r,(av,s),β,g,h,hm=>by
    obtain ⟨β1,g1,h1⟩:=sink1_ok g h (hm m (List.mem_cons_self ..))
    exact zoL (l:=r) (p:=zoM m (av,s)) g1 h1 fun k hk=>hm k (List.mem_cons_of_mem _ hk)
theorem zix {d m:Nat}:∀ {l:List A1},m∈zkJ d l→m % 64≠63∧m / 64=d
  | [],h=>by cases h
  | a :: r,h=>by
    cases a with
    | dp k =>
      simp only[zkJ] at h
      split at h
      · rename_i h1 h2
        rcases List.mem_cons.1 h with rfl | h
        · exact ⟨(fun e=>by rw[e] at h2; cases h2),Nat.eq_of_beq_eq_true h1⟩
        · exact zix h
      · exact zix h
    | _=>exact zix (l:=r) h
theorem zoZ {d m:Nat} {p:Bool × List A1} (h:m∈zE3 d p):m % 64≠63∧m / 64=d:=by
  unfold zE3 at h
  split at h
  · rename_i k1 k2
    split at h
    · rename_i h1 h2
      obtain ⟨a1,a2⟩:=Bool.and_eq_true_iff.1 h1
      obtain ⟨b1,b2⟩:=Bool.or_eq_false_iff.1 h2
      rcases List.mem_cons.1 h with rfl | h
      · exact ⟨(fun e=>by rw[e] at b1; cases b1),Nat.eq_of_beq_eq_true a1⟩
      · rw[List.mem_singleton] at h; subst h
        exact ⟨(fun e=>by rw[e] at b2; cases b2),Nat.eq_of_beq_eq_true a2⟩
    · cases h
  · exact zix h
theorem ztn {d m:Nat}:∀ {l:List (Bool × List A1)},m∈newP d l→m % 64≠63∧m / 64=d
  | p :: r,h=>by
    rcases List.mem_append.1 h with h | h
    · exact zoZ h
    · exact ztn (l:=r) h
theorem zEL {w:World} {v:Value} {d:Nat} {p:AV × St} {β:Nat→Option Value} (g:Gam C p.2 X β tm w) (h:zaS (cx C p.2 β w) p.1 v):∃ β',Gam C (ztd d p).2 X β' tm w∧zaS (cx C (ztd d p).2 β' w) (ztd d p).1 v:=by
  unfold ztd
  split
  · split
    · exact zoL g h fun m hm=>(zoZ hm).1
    · exact zoL g h fun m hm=>(ztn hm).1
  · exact ⟨β,g,h⟩
end
end Go.Di
open Go.RowKit (Below)
namespace Go.Di
theorem zvR (size:Nat) (place:Nat→Option (Nat × Nat)) (hp:∀ i,place i=some (i * size,size)):∀ (vs:List Value) (k:Nat) (cells:Array Value),(∀ v∈vs,v.cells.size=size)→(k+vs.length) * size≤cells.size →
    ∃ cells',Instr.fill place cells ((vs.zipIdx k).map fun p=>(p.2,p.1))=some cells'∧cells'.toList=cells.toList.take (k * size)++vs.flatMap (fun v=>v.cells.toList)++cells.toList.drop ((k+vs.length) * size)
  | [],k,cells,_,_=>⟨cells,rfl,by simp⟩
  | v :: vs,k,cells,h1,h2=>by
    simp only[List.length_cons] at h2
    have hv:=h1 v (List.mem_cons_self ..)
    have e0:(k+(vs.length+1)) * size=k * size+size+vs.length * size:=by rw[Nat.add_mul,Nat.add_mul]; omega
    have e1:(k+1+vs.length) * size=k * size+size+vs.length * size:=by rw[Nat.add_mul,Nat.add_mul]; omega
    obtain ⟨c1,q1,q2⟩:=zC9 place cells k (k * size) size v ((vs.zipIdx (k+1)).map fun p=>(p.2,p.1)) (hp k) hv (by omega)
    have hl1:c1.size=cells.size:=by
      have:=congrArg List.length q2
      simp only[Array.length_toList,List.length_append,List.length_take,List.length_drop] at this
      omega
    obtain ⟨c2,q3,q4⟩:=zvR size place hp vs (k+1) c1 (fun u hu=>h1 u (List.mem_cons_of_mem _ hu)) (by omega)
    refine ⟨c2,by simp only[List.zipIdx_cons,List.map_cons]; rw[q1]; exact q3,?_⟩
    rw[q4,q2]
    have hlt:(cells.toList.take (k * size)).length=k * size:=by rw[List.length_take,Array.length_toList]; omega
    have a1:(cells.toList.take (k * size)++v.cells.toList++cells.toList.drop (k * size+size)).take ((k+1) * size)=cells.toList.take (k * size)++v.cells.toList:=by
      apply List.take_left'
      rw[List.length_append,hlt,Array.length_toList,hv,Nat.add_mul,Nat.one_mul]
    have a2:(cells.toList.take (k * size)++v.cells.toList++cells.toList.drop (k * size+size)).drop ((k+1+vs.length) * size)=cells.toList.drop ((k+(vs.length+1)) * size):=by
      have hl2:(cells.toList.take (k * size)++v.cells.toList).length=k * size+size:=by rw[List.length_append,hlt,Array.length_toList,hv]
      rw[e0,e1,← hl2,List.drop_length_add_append,List.drop_drop]
    rw[a1,a2]
    simp[List.append_assoc]
section
variable {P:Program} {C:Bs} {w w':World} {s s':St} {X:Nat→Prop} {β β':Nat→Option Value} {a:Act} {o:Oper} {tm:Array Value}
  {t:TypeId} {x y:Operand} {i:TI} {K:Act→World→Prop} {Q:Exit→Act→World→Prop} {lay:List (TypeId × TI)} {cons:List (FuncId × Con)} {av:AV}
theorem elemsOf_spec {ps:List (Nat × Operand)} (hop:∀ (j:Nat) (z:Operand),(j,z)∈ps→zaS (cx C s β w) (zaX s z) (a.eval z)) (g:Gam C s X β a.tmps w) {e:ST}:∀ (k:Nat) {es:List e.El} {cs:List A1},elemsOf s e k ps=some (es,cs) →
    ps.map (fun p=>(p.1,a.eval p.2))=((ps.map fun p=>a.eval p.2).zipIdx k).map (fun p=>(p.2,p.1))∧(∀ v∈ps.map (fun p=>a.eval p.2),v.cells.size=e.size∧∀ u∈v.cells.toList,u.oneCell'=true)∧es.length=ps.length ∧
      (∀ (l:List A1),(∀ b∈cs,b∈l)→∀ (j:Nat) (c:Cell),(flat e es)[j]? = some c→∃ u,((ps.map fun p=>a.eval p.2).flatMap fun v=>v.cells.toList)[j]? = some u∧(cx C ⟨s.env,zat l s.ents⟩ β w).rd u c) ∧
      zcm (cx C s β w) cs ((ps.map fun p=>a.eval p.2).flatMap fun v=>v.cells.toList)∧∀ (j:Nat) (c:Cell),(flat e es)[j]? = some c→∃ b ck z,cs[j]? = some b∧b.as s.ents ck=some z∧c=ck.cell z:=by
  induction ps with
  | nil=>intro k es cs h; simp only[elemsOf] at h; cases h; exact ⟨rfl,(fun v hv=>by cases hv),rfl,(fun l _ j c hj=>by simp[flat] at hj),trivial,fun j c hj=>by simp[flat] at hj⟩
  | cons q ps ih =>
    intro k es cs h
    obtain ⟨j0,z⟩:=q
    simp only[elemsOf] at h
    split at h
    · rename_i hj0
      have hj0:k=j0:=by simpa using hj0
      subst hj0
      split at h
      · rename_i c hc
        split at h
        · rename_i el hel
          split at h
          · rename_i p hp
            cases h
            obtain ⟨h1,h2,h3,h4,h5,h6⟩:=ih (fun j z hm=>hop j z (List.mem_cons_of_mem _ hm)) (k+1) (es:=p.1) (cs:=p.2) hp
            obtain ⟨xt,q1,rfl⟩:=zhY hel
            obtain ⟨hcv,_⟩:=zh1 (hop k z (List.mem_cons_self ..)) hc
            have hl:=zlP q1
            rw[zqO] at hl
            have hcl:=hcv.length
            simp only[Array.length_toList] at hcl
            refine ⟨by simp only[List.map_cons,List.zipIdx_cons,h1],fun v hv=>?_,by simp[h3],fun l hcs j cc hj=>?_,?_,fun j cc hj=>?_⟩
            · simp only[List.map_cons,List.mem_cons] at hv
              rcases hv with rfl | hv
              · exact ⟨by omega,hcv.one⟩
              · exact h2 v hv
            · have hfl:flat e (e.mk xt :: p.1)=e.cells (e.mk xt)++flat e p.1:=by simp[flat]
              rw[hfl] at hj
              simp only[List.map_cons,List.flatMap_cons]
              by_cases hlt:j < e.size
              · rw[List.getElem?_append_left (by rw[zan]; exact hlt),ze4] at hj
                obtain ⟨u,hu,hr⟩:=as_stored g (l:=l) (fun b hb=>hcs b (List.mem_append_left _ hb)) hcv q1 j cc hj
                exact ⟨u,by rw[List.getElem?_append_left (by simp; omega)]; exact hu,hr⟩
              · rw[List.getElem?_append_right (by rw[zan]; omega),zan] at hj
                obtain ⟨u,hu,hr⟩:=h4 l (fun b hb=>hcs b (List.mem_append_right _ hb)) _ cc hj
                exact ⟨u,by rw[List.getElem?_append_right (by simp; omega)]; simpa [← hcl,hl] using hu,hr⟩
            · simp only[List.map_cons,List.flatMap_cons]
              exact hcv.append h5
            · have hfl:flat e (e.mk xt :: p.1)=e.cells (e.mk xt)++flat e p.1:=by simp[flat]
              rw[hfl] at hj
              by_cases hlt:j < e.size
              · rw[List.getElem?_append_left (by rw[zan]; exact hlt),ze4] at hj
                obtain ⟨b,ck,z,g1,g2,g3⟩:=zf1 q1 j cc hj
                exact ⟨b,ck,z,by rw[List.getElem?_append_left (by omega)]; exact g1,g2,g3⟩
              · rw[List.getElem?_append_right (by rw[zan]; omega),zan] at hj
                obtain ⟨b,ck,z,g1,g2,g3⟩:=h6 _ cc hj
                exact ⟨b,ck,z,by rw[List.getElem?_append_right (by omega),hl]; exact g1,g2,g3⟩
          · cases h
        · cases h
      · cases h
    · cases h
theorem sound_buildSlice (hL:zcF P lay) {len:Nat} {ps:Array (Nat × Operand)} (hlen24:len≤1000) (ho:o.op = .buildSlice t len ps) (g:Gam C s X β a.tmps w) (hx:∀ (j:Nat) (z:Operand),(j,z)∈ps.toList→zaS (cx C s β w) (zaX s z) (a.eval z))
    (hps:len=0→ps.toList=[]) (hy:(evalOp lay cons o s).Yields (av,s')) (hK:Goes C X o a av s' K):o.wp P a w K Q:=by
  simp only[evalOp,ho] at hy
  split at hy
  · rename_i _ _ _ e _ _ _ hi
    obtain ⟨inf,d,z,_,hu,_,_,_,_,_,hel,_⟩:=hL t _ hi
    obtain ⟨E,rfl,einf,ez,q1,q2,q3,q4,q5⟩:=hel e rfl
    split at hy
    · cases hy
      have hpe:=hps rfl
      have hpe':ps=#[]:=by simpa using hpe
      refine zd7 (v := .slice (some ⟨w.heap.size,0,none⟩) 0 0) (w':=w.alloc (.cells #[] E)) ?_ (hK _ _ β (g.grown (zbr w _)) (zbW (a := .mt) ⟨_,rfl⟩ rfl))
      simp[execOp,ho,Instr.buildSlice,run_underlying hu,sizeOf,typeInfo,q1,hpe',Instr.fill,newRow]
      exact congrArg (fun c=>w.alloc (.cells c E)) (Array.eq_empty_of_size_eq_zero (by simp))
    · rename_i hlen0
      split at hy
      · rename_i es cs hes
        split at hy
        · rename_i hlb
          have hlb:es.length=len:=by simpa using hlb
          obtain ⟨h1,h2,h3,h4,h5',h6'⟩:=elemsOf_spec hx g 0 hes
          have h4:=h4 cs (fun b hb=>hb)
          have hsz:=size_pos e
          have hlp:0 < len:=by
            rcases Nat.eq_zero_or_pos len with h | h
            · exact (hlen0 h).elim
            · exact h
          have hpl:ps.size=len:=by rw[← hlb,h3]; simp
          have hm:len * e.size≤1000 * 9:=Nat.mul_le_mul hlen24 (by cases e<;>decide)
          have hmne:¬ len * e.size=0:=by
            have:=Nat.mul_pos hlp hsz; omega
          have hz0:((Array.range (len * e.size)).map (ez.cells[· % ez.cells.size]!)).size=len * e.size:=by simp
          obtain ⟨cells,e1,e2⟩:=zvR e.size (fun i=>some (i * e.size,e.size)) (fun _=>rfl) (ps.toList.map fun p=>a.eval p.2) 0 ((Array.range (len * e.size)).map (ez.cells[· % ez.cells.size]!))
            (fun v hv=>(h2 v hv).1) (by simp[hpl])
          rw[← h1] at e1
          have hcl:cells.toList=(ps.toList.map fun p=>a.eval p.2).flatMap fun v=>v.cells.toList:=by
            rw[e2]
            simp only[Nat.zero_mul,List.take_zero,List.nil_append,Nat.zero_add]
            rw[List.drop_of_length_le (by simp[hpl]),List.append_nil]
          have hcs:cells.size=len * e.size:=by
            have h5:∀ vs:List Value,(∀ v∈vs,v.cells.size=e.size)→(vs.flatMap fun v=>v.cells.toList).length=vs.length * e.size:=by
              intro vs
              induction vs with
              | nil=>intro _; simp
              | cons v vs ih=>intro h; simp only[List.flatMap_cons,List.length_append,Array.length_toList,h v (List.mem_cons_self ..),ih fun u hu=>h u (List.mem_cons_of_mem _ hu),List.length_cons,Nat.add_mul]; omega
            have:=congrArg List.length hcl
            rw[Array.length_toList,h5 _ fun v hv=>(h2 v hv).1,List.length_map,← h3,hlb] at this
            exact this
          have mach:(execOp a.eval o).run P w = .ok (.value (.slice (some ⟨w.heap.size,0,none⟩) len len)) (w.alloc (.cells cells E)):=by
            have hnot:¬ (16777216 < len * e.size):=by omega
            have e1':Instr.fill (fun i=>some (i * e.size,e.size)) ((Array.range (len * e.size)).map fun x=>ez.cells[x % ez.cells.size]!) (List.map (fun p=>(p.1,a.eval p.2)) ps.toList)=some cells:=e1
            simp[execOp,ho,Instr.buildSlice,run_underlying hu,sizeOf,typeInfo,zeroValue,q1,q2,q4,hnot,hmne,newRow]
            simp[e1']
          have tops:∀ b∈zaN (.slice (some ⟨w.heap.size,0,none⟩) len len),b=w.heap.size:=fun b hb=>by
            cases len with
            | zero=>omega
            | succ k=>simpa [zaN] using hb
          split at hy
          · rename_i hdt
            have hcd:=zn9 hdt hi rfl
            split at hy
            · rename_i Kn habs
              split at hy
              · rename_i hnd
                cases hy
                obtain ⟨r1,r2⟩:=zh5 g h5' habs (ze9 hnd)
                have hcl5:=h5'.length
                have hcsl:cs.length=len * e.size:=by rw[hcl5,← hcl,Array.length_toList,hcs]
                have hKm:∀ k∈Kn,∃ e,look k s.ents=some e∧e.mut=true:=fun k hk=>by
                  obtain ⟨ys,h⟩:=zhA habs k hk; exact ⟨_,h,rfl⟩
                have gp:=g.ziu (w':=w.alloc (.cells cells E)) (n:=nm (o.dst.getD 0)) (u:=e) (xs:=es) (vs:=(Value.slice (some ⟨w.heap.size,0,none⟩) len len :: znH cs ((ps.toList.map fun p=>a.eval p.2).flatMap fun v=>v.cells.toList)).toArray) (zfq _) hKm
                  (fun b hlt _=>(zbr w _).block b hlt) (zbr w _).size (Kp.of (zbr w _) g.kb) (fun b hb=>by
                    have hb:b∈(Value.slice (some ⟨w.heap.size,0,none⟩) len len :: znH cs ((ps.toList.map fun p=>a.eval p.2).flatMap fun v=>v.cells.toList)).flatMap zaN:=hb
                    rw[List.flatMap_cons] at hb
                    rcases List.mem_append.1 hb with hb | hb
                    · have:=tops b hb; subst this; exact .inl ⟨Nat.le_refl _,by simp⟩
                    · obtain ⟨m,hm,v,h1,h2⟩:=r2 b hb; exact .inr ⟨m,hm,v,h1,h2⟩) (fun yc hyw=>by
                    refine ⟨_,_,rfl,?_,?_,hcd,.inr ⟨w.heap.size,len,cells,E,by rw[hlb],hlp,by omega,by unfold maxLen; omega,by rw[hyw]; exact heap_alloc w _,hcs,fun j c hj=>?_⟩⟩
                    · rw[zfQ hcl5,hcsl,hlb]
                    · rw[List.flatMap_cons]
                      refine List.nodup_append.2 ⟨zd8 _,r1,fun b h1 b' h2 he=>?_⟩
                      subst he
                      have:=tops b h1
                      obtain ⟨m,hm,v,k1,k2⟩:=r2 b h2
                      obtain ⟨e0,g1,g2⟩:=hKm m hm
                      have:=(g.fresh b ⟨m,e0,v,g1,g2,k1,k2⟩).2
                      omega
                    · obtain ⟨b,ck,z,g1,g2,g3⟩:=h6' j c hj
                      obtain ⟨v,hv,hok,_⟩:=h5'.get g1
                      obtain ⟨k1,ha1,ha2⟩:=zj0 habs g1
                      refine ⟨v,zJj b v,by rw[← Array.getElem?_toList,hcl]; exact hv,zir g1 hv,?_⟩
                      subst g3
                      refine zr5 g hok ha1 g2 (fun t2 xs2 hh=>zlU hcd (by rw[← hh]; exact hj)) fun k hk=>?_
                      rw[hyw]
                      refine (zbr w _).block k ?_
                      obtain ⟨m,hm,v2,h3,h4⟩:=zny hok ha1 k hk
                      obtain ⟨e0,g1,g2⟩:=hKm m (ha2 m hm)
                      exact (g.fresh k ⟨m,e0,v2,g1,g2,h3,h4⟩).2)
                exact zd7 mach (hK _ _ _ gp (zbW (a := .dp _) (fun _=>⟨_,upd_same ..,by simp⟩) rfl))
              · exact hy.elim
            · exact hy.elim
          · cases hy
            have gp:=(g.zat cs).zhb (zbr w (.cells cells E)) (hnm:=zfq _) (n:=nm (o.dst.getD 0)) (e := .arr false e es) (v := .slice (some ⟨w.heap.size,0,none⟩) len len) (fun b hb=>by
                cases len with
                | zero=>omega
                | succ k=>simp[zao] at hb; subst hb; simp) fun hle => .inr ⟨w.heap.size,len,cells,E,by rw[hlb],hlp,by omega,by unfold maxLen; omega,heap_alloc w _,hcs,fun j c hj=>by
                obtain ⟨u,hu,hr⟩:=h4 j c hj
                exact ⟨u,by rw[← Array.getElem?_toList,hcl]; exact hu,hle.rd ((zjV _).rd hr)⟩⟩
            exact zd7 mach (hK _ _ _ gp (zbW (a := .own _) (fun _ _ _ _=>upd_same ..) rfl))
        · exact hy.elim
      · exact hy.elim
  · exact hy.elim
theorem zFR {x:Cx} {fr:Bool} {t:ST} {xs:List t.El} {vs:Array Value} {v:Value} (h:EntOk x (.deep fr t xs) (.tuple vs)) (h0:vs[0]? = some v):(zjD x.w x.β fun _=>True).rd v (.sl t xs):=by
  cases fr with
  | false=>exact zDi h h0 fun _ _=>trivial
  | true=>exact zmB (zpg h h0) fun _ _ _ _=>trivial
theorem zDk {x:Cx} {fr:Bool} {t:ST} {xs:List t.El} {vs:Array Value} {v:Value} (h:EntOk x (.deep fr t xs) (.tuple vs)) {i off:Nat} {e:t.El} {ys:List Int} (he:xs[i]? = some e) (hoff:off < t.size) (hc:(t.cells e)[off]? = some (.sl .int ys))
    (hv:vs[1+i * t.size+off]? = some v):(zjD x.w x.β fun _=>True).rd v (.sl .int ys):=by
  cases fr with
  | false=>exact zvr (znh h he hoff hc hv) fun _ _=>trivial
  | true=>exact zmB (zok h he hoff hc hv) fun _ _ _ _=>trivial
theorem zAg {ts:Array TypeId} (ho:o.op = .call { callee := .builtin .max,args:=#[x,y],argTypes:=ts }) (g:Gam C s X β a.tmps w) (hx:zaS (cx C s β w) (zaX s x) (a.eval x)) (hx2:zaS (cx C s β w) (zaX s y) (a.eval y))
    (hy:(evalOp lay cons o s).Yields (av,s')) (hK:Goes C X o a av s' K):o.wp P a w K Q:=by
  simp only[evalOp,ho] at hy
  split at hy
  · rename_i k m k' n h1 h2
    cases hy
    rw[h1] at hx; rw[h2] at hx2
    have v1:=zen hx
    have v2:=zen hx2
    have hr:(execOp a.eval o).run P w = .ok (.value (.int k (cond (decide (n > m)) n m))) w:=by
      by_cases h:n > m
      · simp[execOp,ho,resolve,invoke,builtin,Builtin.max_,Builtin.max2,v1,v2,h]
      · simp[execOp,ho,resolve,invoke,builtin,Builtin.max_,Builtin.max2,v1,v2,h]
    exact zak hr g zaU hK
  · exact hy.elim
theorem sound_len (hL:zcF P lay) (ho:o.op = .call { callee := .builtin .len,args:=#[x],argTypes:=#[t] }) (g:Gam C s X β a.tmps w) (hx:zaS (cx C s β w) (zaX s x) (a.eval x))
    (hy:(evalOp lay cons o s).Yields (av,s')) (hK:Goes C X o a av s' K):o.wp P a w K Q:=by
  simp only[evalOp,ho] at hy
  split at hy
  · rename_i i b hi hb
    have hT:=hL t i hi
    rw[zco hb] at hx
    have hT':=hT
    unfold lenOp at hy
    split at hy
    · split at hy
      · rename_i hs
        cases hy
        exact zak (ztg hT (zvE hs) ho (zkz hx)) g zaU hK
      · exact hy.elim
    · split at hy
      · exact hy.elim
      · rename_i e he
        obtain ⟨a1,h1,h2,hx3⟩:=hx; cases h1
        split at hy
        · cases hy
          obtain ⟨ad,cap,hv,_⟩:=zmA h2
          exact zak (zkF hT he ho hv) g zaU hK
        · cases hy
          obtain ⟨ad,hv⟩:=h2
          exact zak (zkF hT he ho hv) g zaU hK
        · split at hy
          · rename_i fr u xs hl
            cases hy
            obtain ⟨ad,cap,hv,_⟩:=znw (g.ents _ _ _ hl (h2 _ _ _ hl))
            exact zak (zkF hT he ho hv) g zaU hK
          · exact hy.elim
        · split at hy
          · rename_i u xs hl
            cases hy
            obtain ⟨vs,k1,k2⟩:=h2 (by simp[cx,hl])
            obtain ⟨ad,cap,hv,_⟩:=zmA (zFR (g.ents _ _ _ hl k1) k2)
            exact zak (zkF hT' he ho hv) g zaU hK
          · exact hy.elim
        · split at hy
          · rename_i n i2 off ys _ _ u xs hl
            cases hy
            obtain ⟨hoff,el,k1,k2,vs,k3,k4⟩:=h2 _ u xs hl
            obtain ⟨ad,cap,hv,_⟩:=zmA (zDk (g.ents _ _ _ hl k3) k1 hoff k2 k4)
            exact zak (zkF hT' he ho hv) g zaU hK
          · exact hy.elim
        · split at hy
          · rename_i fr u xs hl
            cases hy
            obtain ⟨_,ad,m,cap,_,_,hv⟩:=h2 fr u xs hl
            exact zak (zkF hT he ho hv) g zaU hK
          · exact hy.elim
        · exact hy.elim
  · exact hy.elim
theorem sound_appendD (hT:zgU P t i) {e:ST} (he:i.elem=some e) (ho:o.op = .call { callee := .builtin .append,args:=#[x,y],argTypes:=#[t,t] }) (g:Gam C s X β a.tmps w) {b:A1} {m:Nat}
    (hx:zaS (cx C s β w) (.v false [b]) (a.eval x)) (hz:zaS (cx C s β w) (.v false [.dp m]) (a.eval y)) {d:Nat}
    (hy:(appendD s d e b m).Yields (av,s')) (hK:Goes C X o a av s' K):o.wp P a w K Q:=by
  obtain ⟨a1,h1,h2,hx3⟩:=hx; cases h1
  obtain ⟨a2,h3,h4,hz3⟩:=hz; cases h3
  unfold appendD at hy
  split at hy
  · rename_i u ys0 hlm
    split at hy
    · rename_i ys hys
      obtain ⟨rfl,rfl⟩:=cast_eq hys
      obtain ⟨vsB,k1,k2⟩:=h4 (by simp[cx,hlm])
      obtain ⟨vb,ub,e1,hub,hnb,hcd,hB⟩:=g.ents m _ _ hlm k1
      cases e1
      have hvb:vb=a.eval y:=by simpa using k2
      have tB:∀ b∈(vb :: ub).flatMap zaN,∃ z,β m=some z∧b∈zao z:=fun b hb=>⟨_,k1,by simpa [zao] using hb⟩
      split at hy
      · obtain ⟨q,hq,hf⟩:=hy
        cases hf
        obtain ⟨ad,hva⟩:=h2
        exact append_deep hT he hcd ho g d (Kn:=[m]) (xs:=[]) (va := .slice ad 0 0) (ua:=[]) hva hvb.symm (.inl ⟨rfl,ad,rfl⟩) hB (by simp) hub (by cases ad<;>simp[zaN]) hnb (fun b hb=>by cases ad<;>simp[zaN] at hb)
          (fun b hb=>by cases ad<;>simp[zaN] at hb) (fun b hb=>⟨m,by simp,tB b hb⟩) (fun k hk=>by have:=List.mem_singleton.1 hk; subst this; exact ⟨_,hlm,rfl⟩) (by simpa using Nat.le_of_ble_eq_true (zdl hq)) hK
      · rename_i n
        split at hy
        · rename_i v xs0 hbeq hl
          split at hy
          · rename_i xs hxs
            obtain ⟨rfl,rfl⟩:=cast_eq hxs
            obtain ⟨q,hq,hf⟩:=hy
            cases hf
            have hne:n≠m:=Nat.ne_of_beq_eq_false hbeq
            obtain ⟨vsA,p1,p2⟩:=h2 (by simp[cx,hl])
            obtain ⟨va,ua,e2,hua,hna,_,hA⟩:=g.ents n _ _ hl p1
            cases e2
            have hva:va=a.eval x:=by simpa using p2
            have tA:∀ b∈(va :: ua).flatMap zaN,∃ z,β n=some z∧b∈zao z:=fun b hb=>⟨_,p1,by simpa [zao] using hb⟩
            exact append_deep hT he hcd ho g d (Kn:=[n,m]) hva.symm hvb.symm hA hB hua hub hna hnb (fun b hb hb'=>by
                obtain ⟨z,z1,z2⟩:=tA b hb
                obtain ⟨z',z3,z4⟩:=tB b hb'
                exact hne (g.uniq n m _ _ z z' b hl hlm rfl rfl z1 z3 z2 z4))
              (fun b hb=>⟨n,by simp,tA b hb⟩) (fun b hb=>⟨m,by simp,tB b hb⟩) (fun k hk=>by
                rcases List.mem_cons.1 hk with rfl | hk
                · exact ⟨_,hl,rfl⟩
                · have:=List.mem_singleton.1 hk; subst this; exact ⟨_,hlm,rfl⟩) (Nat.le_of_ble_eq_true (zdl hq)) hK
          · exact hy.elim
        · exact hy.elim
      · exact hy.elim
    · exact hy.elim
  · exact hy.elim
theorem sound_append (hL:zcF P lay) {u:TypeId} (ho:o.op = .call { callee := .builtin .append,args:=#[x,y],argTypes:=#[t,u] }) (g:Gam C s X β a.tmps w) (hx:zaS (cx C s β w) (zaX s x) (a.eval x)) (hz:zaS (cx C s β w) (zaX s y) (a.eval y))
    (hy:(evalOp lay cons o s).Yields (av,s')) (hK:Goes C X o a av s' K):o.wp P a w K Q:=by
  simp only[evalOp,ho] at hy
  split at hy
  · rename_i hbeq hi hb1 hb2
    have htu:t=u:=by simpa using hbeq
    subst htu
    have hT:=hL t _ hi
    rw[zco hb1] at hx
    rw[zco hb2] at hz
    split at hy
    · exact sound_appendD hT rfl ho g hx hz hy hK
    unfold appendOp at hy
    split at hy
    · rename_i ys hys
      split at hy
      · obtain ⟨q,hq,hf⟩:=hy
        cases hf
        obtain ⟨a1,h1,h2,_⟩:=hx; cases h1; obtain ⟨ad,h2⟩:=h2
        exact append_mt hT rfl ho g _ h2 hz hys (Nat.le_of_ble_eq_true (zdl hq)) hK
      · split at hy
        · rename_i v xs0 hl
          split at hy
          · rename_i xs hxs
            obtain ⟨rfl,rfl⟩:=cast_eq hxs
            obtain ⟨q,hq,hf⟩:=hy
            cases hf
            exact append_own hT rfl ho g _ hl hx hz hys (Nat.le_of_ble_eq_true (zdl hq)) hK
          · exact hy.elim
        · exact hy.elim
      · exact hy.elim
    · exact hy.elim
  · exact hy.elim
theorem zoU {l:List Operand} (hx:∀ z∈l,zaS (cx C s β w) (zaX s z) (a.eval z)):∀ (j:Nat) av v,(opsL s l)[j]? = some av→(l.map a.eval)[j]? = some v→zaS (cx C s β w) av v:=by
  induction l with
  | nil=>intro j av v h; simp[opsL] at h
  | cons z r ih =>
    intro j av v h1 h2
    cases j with
    | zero=>simp[opsL] at h1 h2; subst h1; subst h2; exact hx z (List.mem_cons_self ..)
    | succ j=>simp[opsL] at h1 h2; exact ih (fun z hz=>hx z (List.mem_cons_of_mem _ hz)) j av v h1 (by simpa using h2)
theorem zd6:∀ l,(opsL s l).length=l.length
  | []=>rfl
  | _ :: r=>by simp[opsL,zd6 r]
theorem zkR:∀ (l:List (Bool × List C1T)) (e:List AV),znJ (l.map some) e=zuB l e
  | [],[]=>rfl
  | [],_ :: _=>rfl
  | _ :: _,[]=>rfl
  | (b,l) :: r,.v _ m :: e=>by
    show zlZ l m++znJ (r.map some) e=zlZ l m++zuB r e
    rw[zkR r e]
  | (b,l) :: r,.tup _ :: e=>by
    show znJ (r.map some) e=zuB r e
    exact zkR r e
theorem box_frz {n:Nat} {m:List A1} (l:List A1) (es:List (Nat × Ent)):look n (zat l es)=some (.box m)↔look n es=some (.box m):=by
  induction l generalizing es with
  | nil=>exact Iff.rfl
  | cons a r ih =>
    have one:look n (a.freeze es)=some (.box m)↔look n es=some (.box m):=by
      have f1:∀ k,look n (freeze1 k es)=some (.box m)↔look n es=some (.box m):=fun k=>by
        rw[look_freeze1]
        split
        · cases hl:look n es with
          | none=>simp
          | some f=>cases f<;>simp[frz]
        · exact Iff.rfl
      cases a<;>simp only[A1.freeze]<;>first | exact Iff.rfl | exact f1 _
    exact (ih _).trans one
theorem pairsE_frz (c:List A1) (es:List (Nat × Ent)) (p:List (Nat × Nat)):∀ l:List (Nat × ET),zmG (zat c es) p l=zmG es p l
  | []=>rfl
  | (n,.arr _ _) :: r=>pairsE_frz c es p r
  | (n,.deep _) :: r=>pairsE_frz c es p r
  | (n,.pool) :: r=>pairsE_frz c es p r
  | (n, .box l) :: r=>by
    have ih:=pairsE_frz c es p r
    have hb:=@box_frz (zaC p n)
    simp only[zmG]
    cases h:look (zaC p n) es with
    | none =>
      cases h':look (zaC p n) (zat c es) with
      | none=>exact ih
      | some f=>cases f with
        | box m=>rw[(hb c es).1 h'] at h; cases h
        | arr _ _ _=>exact ih
        | deep _ _ _=>exact ih
        | pool _=>exact ih
    | some f =>
      cases f with
      | box m=>rw[(hb c es).2 h]; simp only[]; rw[ih]
      | arr _ _ _ =>
        cases h':look (zaC p n) (zat c es) with
        | none=>exact ih
        | some f=>cases f with
          | box m=>rw[(hb c es).1 h'] at h; cases h
          | arr _ _ _=>exact ih
          | deep _ _ _=>exact ih
          | pool _=>exact ih
      | deep _ _ _ =>
        cases h':look (zaC p n) (zat c es) with
        | none=>exact ih
        | some f=>cases f with
          | box m=>rw[(hb c es).1 h'] at h; cases h
          | arr _ _ _=>exact ih
          | deep _ _ _=>exact ih
          | pool _=>exact ih
      | pool _ =>
        cases h':look (zaC p n) (zat c es) with
        | none=>exact ih
        | some f=>cases f with
          | box m=>rw[(hb c es).1 h'] at h; cases h
          | arr _ _ _=>exact ih
          | deep _ _ _=>exact ih
          | pool _=>exact ih
theorem dataE_frz (c:List A1) (es:List (Nat × Ent)) (p:List (Nat × Nat)):∀ l:List (Nat × ET),zjZ (zat c es) p l=zjZ es p l
  | []=>rfl
  | (n,.arr _ _) :: r=>dataE_frz c es p r
  | (n,.deep _) :: r=>dataE_frz c es p r
  | (n,.pool) :: r=>dataE_frz c es p r
  | (n, .box l) :: r=>by
    have ih:=dataE_frz c es p r
    have hb:=@box_frz (zaC p n)
    simp only[zjZ]
    cases h:look (zaC p n) es with
    | none =>
      cases h':look (zaC p n) (zat c es) with
      | none=>exact ih
      | some f=>cases f with
        | box m=>rw[(hb c es).1 h'] at h; cases h
        | arr _ _ _=>exact ih
        | deep _ _ _=>exact ih
        | pool _=>exact ih
    | some f =>
      cases f with
      | box m=>rw[(hb c es).2 h]; simp only[]; rw[ih]
      | arr _ _ _ =>
        cases h':look (zaC p n) (zat c es) with
        | none=>exact ih
        | some f=>cases f with
          | box m=>rw[(hb c es).1 h'] at h; cases h
          | arr _ _ _=>exact ih
          | deep _ _ _=>exact ih
          | pool _=>exact ih
      | deep _ _ _ =>
        cases h':look (zaC p n) (zat c es) with
        | none=>exact ih
        | some f=>cases f with
          | box m=>rw[(hb c es).1 h'] at h; cases h
          | arr _ _ _=>exact ih
          | deep _ _ _=>exact ih
          | pool _=>exact ih
      | pool _ =>
        cases h':look (zaC p n) (zat c es) with
        | none=>exact ih
        | some f=>cases f with
          | box m=>rw[(hb c es).1 h'] at h; cases h
          | arr _ _ _=>exact ih
          | deep _ _ _=>exact ih
          | pool _=>exact ih
theorem Gam.zA1 (g:Gam C s X β tm w) {avs:List AV} {args:List Value} (hlen:avs.length=args.length) (h:∀ (j:Nat) av v,avs[j]? = some av→args[j]? = some v→zaS (cx C s β w) av v) :
    Gam C ⟨avs,s.ents⟩ NoX β args.toArray w:=by
  refine ⟨by simpa using hlen,fun t av _ hb=>?_,g.ents,g.uniq,g.fresh,g.kb,g.below,g.pin,g.np,g.bs,g.fx,g.tk⟩
  have hlt:t < args.length:=by rw[← hlen]; exact (List.getElem?_eq_some_iff.1 hb).1
  have:=h t av args[t] hb (List.getElem?_eq_getElem hlt)
  have he:args.toArray.getD t undef=args[t]:=by simp[Array.getD,hlt]
  rw[he]; exact this
theorem zpd:∀ {us:List Value},(us.flatMap zaN).Nodup→∀ {i j:Nat} {a b:Value} {k:Nat},us[i]? = some a→us[j]? = some b→k∈zaN a→k∈zaN b→i=j
  | [],_,i,j,a,b,k,h,_,_,_=>by simp at h
  | u :: us,hn,i,j,a,b,k,h1,h2,h3,h4=>by
    rw[List.flatMap_cons] at hn
    have hn':=List.nodup_append.1 hn
    cases i with
    | zero =>
      cases j with
      | zero=>rfl
      | succ j =>
        simp at h1 h2; subst h1
        exact absurd rfl (hn'.2.2 k h3 k (List.mem_flatMap.2 ⟨b,List.mem_of_getElem? h2,h4⟩))
    | succ i =>
      cases j with
      | zero =>
        simp at h1 h2; subst h2
        exact absurd rfl (hn'.2.2 k h4 k (List.mem_flatMap.2 ⟨a,List.mem_of_getElem? h1,h3⟩))
      | succ j=>exact congrArg (·+1) (zpd hn'.2.1 (i:=i) (j:=j) (by simpa using h1) (by simpa using h2) h3 h4)
theorem zCO {g:Sig} (h:g.inner=true) (f:Nat→Nat) (y:Tys g.zhH.ks):∃ k z,zto g.tup (zEz f (g.zhH.enc y).env) = .v false [.d (.int k z)]:=by
  obtain ⟨args,ins,tup,res,outs⟩:=g
  unfold Sig.inner at h
  split at h
  · rename_i k h1 h2 h3 h4
    simp only at h3
    subst h3
    cases tup with
    | true=>cases h
    | false=>exact ⟨k,_,rfl⟩
  · cases h
theorem zux {g:Sig} (h:g.fine=true) (x:Tys g.tin.ks):look PN (g.tin.enc x).ents=none:=by
  obtain ⟨h1,_⟩:=zxD h
  obtain ⟨h1,_⟩:=zxD h1
  cases hl:look PN (g.tin.enc x).ents with
  | none=>rfl
  | some e =>
    obtain ⟨t,ht⟩:=zgg (l:=g.ins) hl
    rw[zaA.2 (za0 ht)] at h1; cases h1
theorem zqT {g:Sig} (h:g.inner=true):g.shares=false∧g.tup=false∧g.res.length=1:=by
  obtain ⟨args,ins,tup,res,outs⟩:=g
  unfold Sig.inner at h
  split at h
  · rename_i k h1 h2 h3 h4
    simp only at h1 h2 h3 h4 h
    subst h3; subst h4
    refine ⟨rfl,?_,rfl⟩
    cases tup with
    | true=>cases h
    | false=>rfl
  · cases h
theorem bare_go {x y:Cx}:∀ {r:List AV},zEf r=true→∀ (j:Nat) av v,r[j]? = some av→zaS x av v→zaS y av v
  | [],_,j,av,v,h,_=>by simp at h
  | a :: r,hb,j,av,v,h,hv=>by
    have key:(∃ c,a = .v false [.d c]∧c.zEC)∧zEf r=true:=by
      unfold zEf at hb
      split at hb
      · rename_i h; cases h
      · rename_i h; cases h; exact ⟨⟨_,rfl,trivial⟩,hb⟩
      · rename_i h; cases h; exact ⟨⟨_,rfl,trivial⟩,hb⟩
      · rename_i h; cases h; exact ⟨⟨_,rfl,trivial⟩,hb⟩
      · cases hb
    cases j with
    | zero =>
      simp at h; subst h
      obtain ⟨c,rfl,hc⟩:=key.1
      obtain ⟨a1,e1,e2,e3⟩:=hv
      cases e1
      exact ⟨_,rfl,zfv e2 hc.plain,e3⟩
    | succ j=>exact bare_go key.2 j av v (by simpa using h) hv
theorem sound_inner {c : Con} {f:FuncId} (hM:zav P C.fix f c) (hcall:Callable P f) {args:Array Operand} {ts:Array TypeId} (ho:o.op = .call { callee := .value (.func f),args:=args,argTypes:=ts }) (g:Gam C s X β a.tmps w)
    (hx:∀ z∈args.toList,zaS (cx C s β w) (zaX s z) (a.eval z)) {n j off d:Nat} {ys:List Int} {r:List AV} (hin:zo3 (opsL s args.toList)=some (n,j,off,ys,r)) (hinner:c.sig.inner=true)
    (hy:(innerCall s d c n j off ys r).Yields (av,s')) (hK:Goes C X o a av s' K):o.wp P a w K Q:=by
  have hops:opsL s args.toList = .v false [.dc n j off ys] :: r:=by
    unfold zo3 at hin
    split at hin
    · rename_i h; cases hin; exact h
    · cases hin
  unfold innerCall at hy
  split at hy
  · rename_i t xs xin hl _ hbare hread hb
    obtain ⟨hfine,hports⟩:=Bool.and_eq_true_iff.1 hb
    obtain ⟨p,hp,hf⟩:=hy
    obtain ⟨hsh,htup,hrl⟩:=zqT hinner
    cases hrun:c.run xin with
    | none=>rw[hrun] at hp; cases hp
    | some y =>
    rw[hrun,Option.bind_some] at hp
    split at hp
    · rename_i zs hzs
      cases hxe:xs[j]? with
      | none=>rw[hxe] at hp; cases hp
      | some e =>
      rw[hxe,Option.bind_some] at hp
      split at hp
      · rename_i l hpatch
        split at hp
        · rename_i e' hel
          split at hp
          case h_2=>cases hp
          rename_i mz hmz
          cases hp
          cases hf
          -- the arguments
          have hlen:(opsL s args.toList).length=(args.toList.map a.eval).length:=by rw[zd6,List.length_map]
          have hav:=zoU hx
          rw[hops] at hlen hav
          cases hargs0:args.toList.map a.eval with
          | nil=>rw[hargs0] at hlen; simp at hlen
          | cons v0 vr =>
          rw[hargs0] at hlen hav
          obtain ⟨a1,e1,hdc,_⟩:=hav 0 _ v0 rfl rfl
          cases e1
          obtain ⟨hoff,el,q1,q2,vs,hβ,hv0⟩:=hdc false t xs hl
          rw[hxe] at q1; cases q1
          have hent:=g.ents n _ _ hl hβ
          have hown:OwnI (cx C s β w) ys v0:=znh hent hxe hoff q2 hv0
          obtain ⟨sv,us,e2,hus,hndT,hcd,hTop⟩:=hent
          cases e2
          have hj:j < xs.length:=(List.getElem?_eq_some_iff.1 hxe).1
          have hu0:us[j * t.size+off]? = some v0:=by
            have:1+j * t.size+off=(j * t.size+off)+1:=by omega
            rw[this] at hv0
            simpa using hv0
          have hmem:∀ b∈zaN v0,b∈zao (.tuple (sv :: us).toArray):=fun b hb=>List.mem_flatMap.2 ⟨v0,by simp[List.mem_of_getElem? hu0],hb⟩
          have hfresh:∀ b∈zaN v0,¬ C.keep b∧b < w.heap.size:=fun b hb=>g.fresh b ⟨n,_,_,hl,rfl,hβ,hmem b hb⟩
          let C0:Bs:=⟨fun b=>b < w.heap.size∧b ∉ zaN v0,w,fun _=>True,fun k=>if k=63 then some v0 else none,C.fix,fun _=>True,none⟩
          let β0:Nat→Option Value:=fun k=>if k=63 then some v0 else none
          have look0:∀ k f,look k (zcC ys r).ents=some f→k=63∧f = .arr false .int ys:=fun k f h=>by
            simp only[zcC,zaq] at h
            split at h
            · rename_i hk; cases h; exact ⟨hk,rfl⟩
            · cases h
          have top0:∀ b,b∈zao v0→b∈zaN v0:=fun b hb=>by
            have ts:∀ ad k c,zao (.slice ad k c)=zaN (.slice ad k c):=fun ad k c=>by cases ad<;>cases c<;>rfl
            rcases hown with ⟨_,ad,rfl⟩ | ⟨_,_,_,_,rfl,_⟩<;>(rw[← ts]; exact hb)
          have ga:Gam C0 (zcC ys r) NoX β0 (v0 :: vr).toArray w:=by
            refine ⟨by simpa [zcC] using hlen,fun t1 b _ hb=>?_,fun k f z h1 h2=>?_,fun k m f1 f2 _ _ _ h1 h2 _ _ _ _ _ _=>?_,fun b hb=>?_,fun b hb=>hb.1,Kp.refl _ _,fun k z h1 _=>h1,fun k hk=>?_,fun k f h=>?_,fun b p hp=>⟨⟨trivial,g.kb b (g.fx b p hp).1.2,fun ht=>(hfresh b ht).1 (g.fx b p hp).1.2⟩,g.fxw b p hp⟩,fun π h=>by cases h⟩
            · have hlt:t1 < (v0 :: vr).length:=by rw[← hlen]; exact (List.getElem?_eq_some_iff.1 hb).1
              have hlt':t1 < vr.length+1:=by simpa using hlt
              have he:(v0 :: vr).toArray.getD t1 undef=(v0 :: vr)[t1]:=by simp[Array.getD,hlt']
              rw[he]
              cases t1 with
              | zero =>
                simp only[zcC,List.getElem?_cons_zero,Option.some.injEq] at hb
                subst hb
                refine ⟨_,rfl,fun _ _ _ _=>rfl,.inr ?_⟩
                rcases hown with ⟨_,ad,rfl⟩ | ⟨_,_,_,_,rfl,_⟩<;>rfl
              | succ t1 =>
                have hb':r[t1]? = some b:=by simpa [zcC] using hb
                exact bare_go hbare t1 b _ hb' (hav (t1+1) b _ (by simpa using hb') (List.getElem?_eq_getElem hlt))
            · obtain ⟨rfl,rfl⟩:=look0 k f h1
              cases h2
              exact hown.go fun _ _=>rfl
            · rw[(look0 k f1 h1).1,(look0 m f2 h2).1]
            · obtain ⟨k,f,z,h1,_,h3,h4⟩:=hb
              obtain ⟨rfl,rfl⟩:=look0 k f h1
              cases h3
              exact ⟨fun hk=>hk.2 (top0 b h4),(hfresh b (top0 b h4)).2⟩
            · by_cases h:k=63
              · subst h; exact ⟨rfl,by decide⟩
              · simp[C0,h] at hk
            · rw[(look0 k f h).1]; rfl
          have hwk:=Tm.zAU hread
          unfold Oper.wp
          rw[zvl hcall ho]
          simp only[Oper.upon_enter]
          have hargs:(args.map a.eval)=(v0 :: vr).toArray:=Array.ext' (by rw[Array.toList_map,hargs0])
          rw[hargs]
          rw[← hsh] at hwk
          refine (hM _ w _ _ xin y (by rfl) hrun (zxg ga hwk (zux hfine xin))).mono ?_
          rintro ex w' ⟨vs2,β2,rfl,hkp,G2⟩
          obtain ⟨β3,G3,hav3⟩:=call_out (s:=zcC ys r) (avs:=(zcC ys r).env) (d:=d) ga ga hwk hfine hports (fun _=>hrl) hkp G2
          obtain ⟨k,z,hres⟩:=zCO hinner (zci (c.sig.tin.src (zcC ys r)) d) (c.out y)
          have hval:zaS (cx C0 (zfd (zcC ys r) d c.sig (c.sig.tin.src (zcC ys r)) (c.out y)).2 β3 w') (zto c.sig.tup (zEz (zci (c.sig.tin.src (zcC ys r)) d) (c.sig.zhH.enc (c.out y)).env)) (zlW c.sig.tup vs2):=hav3
          rw[hres] at hval
          have hp3:β3 63=some v0:=G3.pin 63 v0 rfl (by rw[hzs]; rfl)
          have hnew:OwnI (cx C0 (zfd (zcC ys r) d c.sig (c.sig.tin.src (zcC ys r)) (c.out y)).2 β3 w') zs v0:=G3.ents 63 _ _ hzs hp3
          have hkp3:=G3.below
          have hblock:∀ b,b < w.heap.size→b ∉ zaN v0→w'.heap[b]? = w.heap[b]? := fun b h1 h2=>hkp3.block b ⟨h1,h2⟩
          -- the deep array behind the call
          obtain ⟨p1,p2⟩:=zfJ _ _ _ _ hpatch
          obtain ⟨xt,g1,rfl⟩:=zhY hel
          rw[zc2,zan] at p1
          have hlt:((zbO (t.cells e)).take off).length=off:=by rw[List.length_take,zc2,zan]; omega
          have hnc:∀ (k:Nat) (cc:Cell),(t.cells (t.mk xt))[k]? = some cc→if k=off then cc = .sl .int zs else (t.cells e)[k]? = some cc:=fun k cc hk=>by
            rw[ze4] at hk
            obtain ⟨b,ck,z,h1,h2,rfl⟩:=zf1 g1 k cc hk
            rw[p2,zbN,hlt] at h1
            simp only[List.length_singleton] at h1
            split
            · rename_i hko
              subst hko
              rw[if_neg (by omega),if_pos (by omega),Nat.sub_self] at h1
              simp only[List.getElem?_cons_zero,Option.some.injEq] at h1
              subst h1
              exact (zfx (by cases ck<;>exact h2)).symm
            · rename_i hko
              have hb:(zbO (t.cells e))[k]? = some b:=by
                by_cases h:k < off
                · rw[if_pos h,List.getElem?_take_of_lt h] at h1; exact h1
                · rw[if_neg h,if_neg (by omega),List.getElem?_drop,show off+1+(k - off - 1)=k from by omega] at h1; exact h1
              rw[zkp] at hb
              cases hc:(t.cells e)[k]? with
              | none=>rw[hc] at hb; cases hb
              | some c0 =>
                rw[hc] at hb
                simp only[Option.map_some,Option.some.injEq] at hb
                subst hb
                rw[zfx (show ck.get c0=some z by cases ck<;>exact h2)]
          have hnd2:∀ b∈zaN sv,b ∉ us.flatMap zaN:=by
            rw[List.flatMap_cons] at hndT
            have:=List.nodup_append.1 hndT
            exact fun b h1 h2=>this.2.2 b h1 b h2 rfl
          have hndu:(us.flatMap zaN).Nodup:=by
            rw[List.flatMap_cons] at hndT
            exact (List.nodup_append.1 hndT).2.1
          have hother:∀ (k:Nat) (b:Value),us[k]? = some b→k≠j * t.size+off→∀ bl∈zaN b,bl ∉ zaN v0:=fun k b hk hne bl h1 h2=>hne (zpd hndu hk hu0 h1 h2)
          have gp := g.zDl (w':=w') (xs':=xs.set j (t.mk xt)) (vs':=(sv :: us).toArray) (K:=[]) hl hβ (fun k hk=>by cases hk) (fun hk=>by cases hk) rfl (by simp) (fun _=>rfl)
            (fun b hlt hb=>hblock b hlt fun h=>hb (hmem b h)) hkp3.size (hkp3.mono fun b hb=>⟨g.kb b hb,fun h=>(hfresh b h).1 hb⟩) (fun b hb => .inl hb) (fun yc hyw=>by
              refine ⟨sv,us,rfl,by simpa using hus,hndT,hcd,?_⟩
              rcases hTop with ⟨h0,_⟩ | ⟨gb,cap,cur,T,k1,k2,k3,k4,k5,k6,k7⟩
              · subst h0; simp at hj
              · have hgb:gb∈zaN sv:=by rw[k1]; cases cap with | zero=>omega | succ k=>simp[zaN]
                have hgbn:gb ∉ zaN v0:=fun h=>hnd2 gb hgb (List.mem_flatMap.2 ⟨v0,List.mem_of_getElem? hu0,h⟩)
                have hgbs:gb < w.heap.size:=(g.fresh gb ⟨n,_,_,hl,rfl,hβ,List.mem_flatMap.2 ⟨sv,by simp,hgb⟩⟩).2
                refine .inr ⟨gb,cap,cur,T,by simpa using k1,k2,by simpa using k3,k4,by rw[hyw,hblock gb hgbs hgbn]; exact k5,k6,fun idx cc hc=>?_⟩
                have stay:∀ c0,(flat t xs)[idx]? = some c0→idx≠j * t.size+off→∃ u b,cur[idx]? = some u∧us[idx]? = some b∧zdH yc u c0 b:=fun c0 hc0 hne=>by
                  obtain ⟨u,b,m1,m2,m3⟩:=k7 idx c0 hc0
                  refine ⟨u,b,m1,m2,m3.go fun bl hbl=>?_⟩
                  rw[hyw]
                  refine hblock bl ?_ (hother idx b m2 hne bl hbl)
                  exact (g.fresh bl ⟨n,_,_,hl,rfl,hβ,List.mem_flatMap.2 ⟨b,by simp[List.mem_of_getElem? m2],hbl⟩⟩).2
                have hfl:=zaD t xs
                have hjl:(j+1) * t.size≤xs.length * t.size:=Nat.mul_le_mul_right _ (by omega)
                rw[Nat.add_mul,Nat.one_mul] at hjl
                rw[flat_set t _ xs j hj,zbN] at hc
                have hlt2:((flat t xs).take (j * t.size)).length=j * t.size:=by rw[List.length_take]; omega
                rw[hlt2,zan] at hc
                by_cases h:idx < j * t.size
                · rw[if_pos h,List.getElem?_take_of_lt h] at hc
                  exact stay cc hc (by omega)
                · rw [if_neg h] at hc
                  by_cases h':idx < j * t.size+t.size
                  · rw [if_pos h'] at hc
                    have hkk:=hnc _ cc hc
                    have hfg:=flat_get t xs j e (idx - j * t.size) hxe (by omega)
                    rw[show j * t.size+(idx - j * t.size)=idx from by omega] at hfg
                    by_cases ho2:idx - j * t.size=off
                    · rw[if_pos ho2] at hkk
                      subst hkk
                      have hidx:idx=j * t.size+off:=by omega
                      obtain ⟨u,b,m1,m2,m3⟩:=k7 idx _ (by rw[hfg,ho2]; exact q2)
                      rw[hidx,hu0] at m2; cases m2
                      have hvu:v0=u:=m3.1
                      subst hvu
                      exact ⟨v0,v0,m1,by rw[hidx]; exact hu0,rfl,hnew.go fun _ _=>by rw[hyw]; rfl⟩
                    · rw[if_neg ho2] at hkk
                      exact stay cc (by rw[hfg]; exact hkk) (by omega)
                  · rw[if_neg h',List.getElem?_drop] at hc
                    rw[show j * t.size+t.size+(idx - j * t.size - t.size)=idx from by omega] at hc
                    exact stay cc hc (by omega))
          have hmz':intOf (zto c.sig.tup (zEz (zci (c.sig.tin.src (zcC ys r)) d) (c.sig.zhH.enc (c.out y)).env))=some mz:=hmz
          rw[hres] at hmz'
          obtain ⟨rfl,rfl⟩:k = .i64∧z=mz:=by
            cases k<;>simp[intOf] at hmz'
            exact ⟨rfl,hmz'⟩
          have hint:=zen hval
          have hfin:=hK (zlW c.sig.tup vs2) w' _ gp (by
            rw[hint]; exact zaU)
          exact hfin
        · cases hp
      · cases hp
    · cases hp
  · exact hy.elim
theorem call_core {c:Con} {f:FuncId} (hM:zav P C.fix f c) {avs:List AV} {vals:List Value} (hrun0:(execOp a.eval o).run P w = .ok (.enter f vals.toArray) w) (g:Gam C s X β a.tmps w)
    (hlen:avs.length=vals.length) (hget:∀ (j:Nat) av v,avs[j]? = some av→vals[j]? = some v→zaS (cx C s β w) av v)
    (hy:(zon s (o.dst.getD 0) c avs).Yields (av,s')) (hK:Goes C X o a av s' K):o.wp P a w K Q:=by
  unfold zon at hy
  split at hy
  · rename_i xin hxin hb
    obtain ⟨hb1,hnames⟩:=Bool.and_eq_true_iff.1 hb
    obtain ⟨htup,hfine⟩:=Bool.and_eq_true_iff.1 hb1
    obtain ⟨y,hrun,hf⟩:=hy
    obtain ⟨rfl,rfl⟩:=Prod.mk.inj hf
    unfold Oper.wp
    rw[hrun0]
    simp only[Oper.upon_enter]
    have key:∃ l:List A1,zaI s c.sig avs=zat l s.ents ∧
        znC c.sig.shares ⟨avs,zaI s c.sig avs⟩ (znJ c.sig.tin.slots avs++zjZ (zaI s c.sig avs) (c.sig.tin.src ⟨avs,zaI s c.sig avs⟩) c.sig.tin.ents):=by
      unfold zaI
      cases hsh:c.sig.shares with
      | false=>exact ⟨[],rfl,zFG⟩
      | true =>
        refine ⟨_,rfl,fun _ b hbm m hi=>?_⟩
        have hsrc:∀ l,c.sig.tin.src ⟨avs,zat l s.ents⟩=c.sig.tin.src ⟨avs,s.ents⟩:=fun l=>by
          simp only[Tm.src]; rw[pairsE_frz]
        have hmem:b∈zuB c.sig.args avs++zjZ s.ents (c.sig.tin.src ⟨avs,s.ents⟩) c.sig.ins:=by
          simp only[] at hbm
          rw[hsrc,dataE_frz,show c.sig.tin.slots=c.sig.args.map some from rfl,zkR] at hbm
          exact hbm
        refine ⟨fun t xs hl=>?_,fun t xs hl=>?_⟩
        · have:=zuu _ s.ents hmem hi hl
          cases this
        · have:=zpa _ s.ents hmem hi hl
          cases this
    obtain ⟨l,hbef,hfz⟩:=key
    generalize hes:zaI s c.sig avs=es at *
    subst hbef
    have g1:=g.zat l
    have ga:Gam C ⟨avs,zat l s.ents⟩ NoX β vals.toArray w:=g1.zA1 hlen fun j av v h1 h2=>by
      have h3:=hget j av v h1 h2
      cases av with
      | v gg ll=>exact VOk.conv (fun b _ v hb=>zeV l s hb) h3
      | tup ps=>obtain ⟨vs,e1,e2⟩:=h3; exact ⟨vs,e1,e2.conv fun p _ b _ v hb=>zeV l s hb⟩
    have hwk:=Tm.zvq hxin (fun h=>by unfold Sig.ex; rw[h]; exact List.mem_cons_self ..) hfz
    refine (hM _ w _ _ xin y (by rfl) hrun (zxg ga hwk (zux hfine xin))).mono ?_
    rintro e w' ⟨vs,β2,rfl,hkp,G2⟩
    obtain ⟨β3,G3,hav⟩:=call_out (s:=⟨s.env,zat l s.ents⟩) (d:=o.dst.getD 0) g1 ga hwk hfine hnames (fun h=>by
      unfold Sig.zMF at htup
      rw[h,Bool.false_or] at htup
      exact Nat.eq_of_beq_eq_true htup) hkp G2
    obtain ⟨β4,G4,hav4⟩:=zEL G3 hav
    exact hK _ w' β4 G4 hav4
  · exact hy.elim
theorem zxZ (hC:zaj P C.fix cons) {f:FuncId} {args:Array Operand} {ts:Array TypeId} (ho:o.op = .call { callee := .value (.func f),args:=args,argTypes:=ts }) (g:Gam C s X β a.tmps w)
    (hx:∀ z∈args.toList,zaS (cx C s β w) (zaX s z) (a.eval z)) (hy:(evalOp lay cons o s).Yields (av,s')) (hK:Goes C X o a av s' K):o.wp P a w K Q:=by
  simp only[evalOp,ho] at hy
  split at hy
  · rename_i c hc
    obtain ⟨hM,hcall⟩:=hC.of hc
    split at hy
    · rename_i hin hinner
      exact sound_inner hM hcall ho g hx hin hinner hy hK
    exact call_core hM (by
      rw[zvl hcall ho]
      have hargs:(args.map a.eval)=(args.toList.map a.eval).toArray:=Array.ext' (by rw[Array.toList_map])
      rw[hargs]) g (by rw[zd6,List.length_map]) (zoU hx) hy hK
  · exact hy.elim
theorem zAO {f:FuncId} (hf:Callable P f) {t:Nat} {vs:Array Value} (hv:a.eval (.tmp t) = .func (.func f) #[] vs) {args:Array Operand} {ts:Array TypeId} (ho:o.op = .call { callee := .value (.tmp t),args:=args,argTypes:=ts }) :
    (execOp a.eval o).run P w = .ok (.enter f (args.map a.eval++vs)) w:=by
  obtain ⟨fn,h1,h2,h3⟩:=hf
  simp only[beq_eq_false_iff_ne,ne_eq] at h2
  have h4:fn.body≠none:=by intro e; rw[e] at h3; cases h3
  simp[execOp,ho,resolve,hv,Deferred.ofValue,invoke,callFunc,h1,h2,h4]
theorem zlO:∀ l:List (List Cell),(zjC l).length=l.length
  | []=>rfl
  | _ :: r=>by simp[zjC,zlO r]
theorem zrN:∀ (l:List (List Cell)) (j:Nat) (b:AV),(zjC l)[j]? = some b→∃ cs,l[j]? = some cs∧b = .v false [.sp cs 0]
  | [],j,b,h=>by simp[zjC] at h
  | cs :: r,0,b,h=>by simp[zjC] at h; subst h; exact ⟨cs,rfl,rfl⟩
  | cs :: r,j+1,b,h=>by simpa using zrN r j b (by simpa [zjC] using h)
theorem zs7 (hC:zaj P C.fix cons) {t:Nat} {args:Array Operand} {ts:Array TypeId} (ho:o.op = .call { callee := .value (.tmp t),args:=args,argTypes:=ts }) (g:Gam C s X β a.tmps w)
    (hf:zaS (cx C s β w) (zaX s (.tmp t)) (a.eval (.tmp t))) (hx:∀ z∈args.toList,zaS (cx C s β w) (zaX s z) (a.eval z)) (hy:(evalOp lay cons o s).Yields (av,s')) (hK:Goes C X o a av s' K):o.wp P a w K Q:=by
  simp only[evalOp,ho] at hy
  split at hy
  · rename_i f css hfn
    split at hy
    · rename_i c hc
      obtain ⟨hM,hcall⟩:=hC.of hc
      have hf':zaS (cx C s β w) (.v false [.fn f css]) (a.eval (.tmp t)):=by
        have:=zco hfn
        rw[← this]; exact hf
      obtain ⟨a1,e1,h1,_⟩:=hf'
      cases e1
      obtain ⟨vs,hv,hsz,hcap⟩:=h1
      refine call_core hM (vals:=args.toList.map a.eval++vs.toList) (by
        rw[zAO hcall hv ho]
        have hargs:(args.map a.eval++vs)=(args.toList.map a.eval++vs.toList).toArray:=Array.ext' (by simp)
        rw[hargs]) g (by simp[zd6,zlO,hsz]) (fun j b v h1 h2=>?_) hy hK
      by_cases hj:j < args.toList.length
      · rw[List.getElem?_append_left (by rw[zd6]; exact hj)] at h1
        rw[List.getElem?_append_left (by rw[List.length_map]; exact hj)] at h2
        exact zoU hx j b v h1 h2
      · rw[List.getElem?_append_right (by rw[zd6]; omega),zd6] at h1
        rw[List.getElem?_append_right (by rw[List.length_map]; omega),List.length_map] at h2
        obtain ⟨cs,q1,rfl⟩:=zrN _ _ _ h1
        obtain ⟨q,o,q2,q3⟩:=hcap _ _ q1
        rw[Array.getElem?_toList,q2] at h2
        cases h2
        exact zbW (a := .sp cs 0) ⟨q,o,rfl,q3⟩ rfl
    · exact hy.elim
  · exact hy.elim
end
end Go.Di
open Go.RowKit (Below)
namespace Go.Di
section
variable {P:Program} {C:Bs} {w w':World} {s s':St} {X:Nat→Prop} {β β':Nat→Option Value} {a:Act} {o:Oper} {tm:Array Value}
  {K:Act→World→Prop} {Q:Exit→Act→World→Prop} {lay:List (TypeId × TI)} {cons:List (FuncId × Con)} {av:AV}
theorem zhV (hL:zcF P lay) (hC:zaj P C.fix cons) (hwf:zEA o=true) (g:Gam C s X β a.tmps w) (hx:∀ t,Operand.tmp t∈o.op.operands→¬ X t) (hy:(evalOp lay cons o s).Yields (av,s')) (hK:Goes C X o a av s' K):o.wp P a w K Q:=by
  have op:∀ x,x∈o.op.operands→zaS (cx C s β w) (zaX s x) (a.eval x):=fun x hm=>zkI g fun t ht=>hx t (by rw[← ht]; exact hm)
  cases ho:o.op with
  | move x=>exact znP (.inl ho) g (op x (by rw[ho]; simp[Op.operands])) hy hK
  | assign x=>exact znP (.inr ho) g (op x (by rw[ho]; simp[Op.operands])) hy hK
  | pick c x y=>exact zxX ho g (op c (by rw[ho]; simp[Op.operands])) (op x (by rw[ho]; simp[Op.operands])) (op y (by rw[ho]; simp[Op.operands])) hy hK
  | alloc t=>exact zta hL ho g hy hK
  | box t x=>exact zAh hL ho g (op x (by rw[ho]; simp[Op.operands])) hy hK
  | build t ps=>exact zs8 hL ho g (fun j z hz=>op z (by rw[ho]; simp[Op.operands]; exact ⟨j,by simpa using hz⟩)) hy hK
  | buildSlice t len ps =>
    have h1:len≤1000∧(len=0→ps.toList=[]):=by
      simp only[zEA,ho] at hwf
      cases len with
      | zero=>exact ⟨by omega,fun _=>by simpa using hwf⟩
      | succ n=>exact ⟨by simpa using hwf,fun h=>by cases h⟩
    exact sound_buildSlice hL h1.1 ho g (fun j z hz=>op z (by rw[ho]; simp[Op.operands]; exact ⟨j,by simpa using hz⟩)) h1.2 hy hK
  | load t x=>exact sound_load hL ho g (op x (by rw[ho]; simp[Op.operands])) hy hK
  | store t x y=>exact sound_store hL ho (by simp only[zEA,ho] at hwf; simpa using hwf) g (op x (by rw[ho]; simp[Op.operands])) (op y (by rw[ho]; simp[Op.operands])) hy hK
  | binOp b t x y u=>exact zs9 hL ho g (op x (by rw[ho]; simp[Op.operands])) (op y (by rw[ho]; simp[Op.operands])) hy hK
  | unOp u t x=>exact zxW hL ho g (op x (by rw[ho]; simp[Op.operands])) hy hK
  | convert u t x=>exact zoK hL ho g (op x (by rw[ho]; simp[Op.operands])) hy hK
  | makeSlice t x y=>exact zxY hL ho g (op x (by rw[ho]; simp[Op.operands])) (op y (by rw[ho]; simp[Op.operands])) hy hK
  | slice t x lo hi mx =>
    cases mx with
    | some m=>simp only[evalOp,ho] at hy; exact hy.elim
    | none =>
      exact sound_slice hL ho g (op x (by rw[ho]; simp[Op.operands])) (fun z hz=>op z (by rw[ho,hz]; simp[Op.operands])) (fun z hz=>op z (by rw[ho,hz]; simp[Op.operands])) hy hK
  | fieldAddr t x f=>exact zmr hL ho g (op x (by rw[ho]; simp[Op.operands])) hy hK
  | field t x f=>exact zs6 hL ho g (op x (by rw[ho]; simp[Op.operands])) hy hK
  | indexAddr t x y=>exact sound_indexAddr hL ho g (op x (by rw[ho]; simp[Op.operands])) (op y (by rw[ho]; simp[Op.operands])) hy hK
  | index t x y=>exact zs5 hL ho g (op x (by rw[ho]; simp[Op.operands])) (op y (by rw[ho]; simp[Op.operands])) hy hK
  | extract x f=>exact sound_extract ho g (op x (by rw[ho]; simp[Op.operands])) hy hK
  | nilCheck x=>exact zAf ho g (op x (by rw[ho]; simp[Op.operands])) hy hK
  | makeFunc fn first caps =>
    cases fn with
    | func f=>exact znG ho g hx hy hK
    | _=>simp only[evalOp,ho] at hy; exact hy.elim
  | call c =>
    obtain ⟨callee,args,ts⟩:=c
    cases callee with
    | invoke r m=>simp only[evalOp,ho] at hy; exact hy.elim
    | value f =>
      cases f with
      | func f=>exact zxZ hC ho g (fun z hz=>op z (by rw[ho]; simp[Op.operands,Call.operands]; exact .inr (by simpa using hz))) hy hK
      | tmp t=>exact zs7 hC ho g (op (.tmp t) (by rw[ho]; simp[Op.operands,Call.operands])) (fun z hz=>op z (by rw[ho]; simp[Op.operands,Call.operands]; exact .inr (by simpa using hz))) hy hK
      | const v=>simp only[evalOp,ho] at hy; exact hy.elim
      | global v=>simp only[evalOp,ho] at hy; exact hy.elim
    | builtin b =>
      obtain ⟨l⟩:=args
      obtain ⟨m⟩:=ts
      cases b<;>try (simp only[evalOp,ho] at hy; exact hy.elim)
      case max =>
        match l with
        | [x,y]=>exact zAg ho g (op x (by rw[ho]; simp[Op.operands,Call.operands])) (op y (by rw[ho]; simp[Op.operands,Call.operands])) hy hK
        | []=>simp only[evalOp,ho] at hy; exact hy.elim
        | [_]=>simp only[evalOp,ho] at hy; exact hy.elim
        | _ :: _ :: _ :: _=>simp only[evalOp,ho] at hy; exact hy.elim
      case len =>
        match l,m with
        | [x],[t]=>exact sound_len hL ho g (op x (by rw[ho]; simp[Op.operands,Call.operands])) hy hK
        | [],_=>simp only[evalOp,ho] at hy; exact hy.elim
        | [_],[]=>simp only[evalOp,ho] at hy; exact hy.elim
        | [_],_ :: _ :: _=>simp only[evalOp,ho] at hy; exact hy.elim
        | _ :: _ :: _,_=>simp only[evalOp,ho] at hy; exact hy.elim
      case append =>
        match l,m with
        | [x,y],[t,u]=>exact sound_append hL ho g (op x (by rw[ho]; simp[Op.operands,Call.operands])) (op y (by rw[ho]; simp[Op.operands,Call.operands])) hy hK
        | [],_=>simp only[evalOp,ho] at hy; exact hy.elim
        | [_],_=>simp only[evalOp,ho] at hy; exact hy.elim
        | [_,_],[]=>simp only[evalOp,ho] at hy; exact hy.elim
        | [_,_],[_]=>simp only[evalOp,ho] at hy; exact hy.elim
        | [_,_],_ :: _ :: _ :: _=>simp only[evalOp,ho] at hy; exact hy.elim
        | _ :: _ :: _ :: _,_=>simp only[evalOp,ho] at hy; exact hy.elim
  | _=>simp only[evalOp,ho] at hy; exact hy.elim
end
theorem zvh {tm:Array Value} {t:Nat} {v:Value} (h:tm.getD t undef=v):tm.setIfInBounds t v=tm:=by
  apply Array.ext (by simp)
  intro j h1 h2
  rw[Array.getElem_setIfInBounds h2]
  split
  · rename_i e; subst e
    simp[Array.getD,h2] at h; exact h.symm
  · rfl
section
variable {P:Program} {C:Bs} {w w':World} {s s':St} {X:Nat→Prop} {β':Nat→Option Value} {a:Act} {o:Oper} {tm:Array Value} {β:Type} {bt:Nat→Option Value}
  {K:Act→World→Prop} {Q:Exit→Act→World→Prop} {E:Env} {k:St→Option β} {r:β}
def zNZ (C:Bs) (k:St→Option β) (r:β) (K:Act→World→Prop):Prop:=∀ s bt a w,Gam C s NoX bt a.tmps w→a.defers=[]→k s=some r→K a w
theorem zkE (hL:zcF P E.lay) (hC:zaj P C.fix E.cons) (g:Gam C s NoX bt a.tmps w) (hd:a.defers=[]) (h:zxO E o s k=some r) (hK:zNZ C k r K):o.wp P a w K Q:=by
  unfold zxO at h
  split at h
  · rename_i hwf
    obtain ⟨⟨av,s'⟩,hy,hk⟩:=zop h
    refine zhV hL hC hwf g (fun t _ hx=>hx) hy fun v w' bt' g' hav=>?_
    cases hdst:o.dst with
    | none=>rw[hdst] at hk; exact hK _ bt' _ w' g' hd hk
    | some t=>rw[hdst] at hk; exact hK _ bt' { a with tmps:=a.tmps.setIfInBounds t v } w' (g'.zoP hav) hd hk
  · cases h
theorem zjE (g:Gam C s NoX bt a.tmps w) {t:Nat} {kb:Bool→St→Option β} (h:zj4 s t kb=some r) :
    ∃ c s1,a.tmps[t]? = some (.bool c)∧Gam C s1 NoX bt a.tmps w∧kb c s1=some r:=by
  unfold zj4 at h
  split at h
  · rename_i c hc
    have hv:zaS (cx C s bt w) (.v false [.d (.bool c)]) (a.tmps.getD t undef):=by
      have:=zkI g (x := .tmp t) (fun _ _ hx=>hx)
      simp only[zaX,Act.eval] at this
      rw[hc] at this; exact this
    have hb:=zf0 hv
    have hlt:t < a.tmps.size:=by
      rcases Nat.lt_or_ge t a.tmps.size with h' | h'
      · exact h'
      · simp[Array.getD,Nat.not_lt.2 h',undef] at hb
    have hget:a.tmps[t]? = some (.bool c):=by
      rw[Array.getElem?_eq_getElem hlt]; simp[Array.getD,hlt] at hb; rw[hb]
    have gset:∀ b,c=b→Gam C (s.set t (.one (.d (.bool b)))) NoX bt a.tmps w:=by
      intro b hcb
      have:=g.zoP (t:=t) (a := .one (.d (.bool b))) (v := .bool b) zbH
      rwa [zvh (by rw[hb,hcb])] at this
    cases c with
    | true=>exact ⟨true,_,hget,gset true rfl,h⟩
    | false=>exact ⟨false,_,hget,gset false rfl,h⟩
  · cases h
theorem runOp_sound (hL:zcF P E.lay) (hC:zaj P C.fix E.cons) {ops:Array Oper} (g:Gam C s NoX bt a.tmps w) (hd:a.defers=[]) (h:runOp E ops.toList o s k=some r) (hK:zNZ C k r K) :
    if Region.wanted o (yielded ops a.tmps) then o.wp P a w K Q else K (a.put o.dst undef) w:=by
  unfold runOp at h
  split at h
  · rename_i hg
    rw[if_pos (by simp[Region.wanted,hg])]
    exact zkE hL hC g hd h hK
  · rename_i j p hg
    split at h
    · rename_i o2 t _ _ _ _ _ hj
      have hj':=hj
      rw[Array.getElem?_toList] at hj'
      have skip:∀ s1,Gam C s1 NoX bt a.tmps w→zx0 o s1 k=some r→K (a.put o.dst undef) w:=by
        intro s1 g1 hk
        unfold zx0 at hk
        cases hdst:o.dst with
        | none=>rw[hdst] at hk; exact hK _ bt _ w g1 hd hk
        | some u=>rw[hdst] at hk; exact hK _ bt { a with tmps:=a.tmps.setIfInBounds u undef } w (g1.zoP zL5) hd hk
      split at h
      · rename_i hun
        have hv:=zkI g (x := .tmp t) (fun _ _ hx=>hx)
        simp only[zaX,Act.eval] at hv
        rw[hun] at hv
        have hv:=zxA hv
        have hy:yielded ops a.tmps j=none:=by
          unfold yielded
          rw[hj']
          simp only[Option.bind_some]
          cases hg':a.tmps[t]? with
          | none=>rfl
          | some v =>
            have:v=undef:=by
              have hlt:=(Array.getElem?_eq_some_iff.1 hg').1
              have:=(Array.getElem?_eq_some_iff.1 hg').2
              simp[Array.getD,hlt] at hv
              rw[← this,hv]
            subst this; rfl
        have hw:Region.wanted o (yielded ops a.tmps)=false:=by
          simp only[Region.wanted,hg,hy]; rfl
        rw[hw]
        exact skip s g h
      · obtain ⟨c,s1,hget,g1,hk⟩:=zjE g h
        have hy:yielded ops a.tmps j=some c:=by
          simp[yielded,hj',hget]
        have hw:Region.wanted o (yielded ops a.tmps)=(c==p):=by
          simp only[Region.wanted,hg,hy]
          cases c<;>cases p<;>rfl
        rw[hw]
        cases c<;>cases p
        · exact zkE hL hC g1 hd hk hK
        · exact skip s1 g1 hk
        · exact skip s1 g1 hk
        · exact zkE hL hC g1 hd hk hK
    · cases h
theorem zlJ (hL:zcF P E.lay) (hC:zaj P C.fix E.cons) {ops:Array Oper}:∀ (l:List Oper) {s:St} {bt:Nat→Option Value} {a:Act} {w:World},Gam C s NoX bt a.tmps w→a.defers=[]→zAP E ops.toList l s k=some r →
    zNZ C k r (fun a w=>Q .normal a w)→wpList P ops Q l a w
  | [],s,bt,a,w,g,hd,h,hK=>hK s bt a w g hd h
  | o :: l,s,bt,a,w,g,hd,h,hK=>by
    refine wpList_step fun K hK'=>?_
    exact runOp_sound hL hC g hd h fun s' bt' a' w' g' hd' h'=>hK' a' w' (zlJ hL hC l g' hd' h' hK)
end
end Go.Di
open Go.RowKit (Below)
namespace Go.Di
def zch (n:Nat) (s s':St):Prop:=(look n s'.ents).map frz=(look n s.ents).map frz
theorem zch.arr {n:Nat} {s s':St} (h:zch n s s') {fr:Bool} {t:ST} {xs:List t.El} (hl:look n s.ents=some (.arr fr t xs)):∃ fr',look n s'.ents=some (.arr fr' t xs):=by
  unfold zch at h
  rw[hl] at h
  cases h':look n s'.ents with
  | none=>rw[h'] at h; cases h
  | some e =>
    rw[h'] at h
    cases e with
    | box l=>simp[frz] at h
    | deep _ u ys=>simp[frz] at h
    | pool k=>simp[frz] at h
    | arr fr' u ys =>
      simp only[frz,Option.map_some,Option.some.injEq] at h
      cases h; exact ⟨_,rfl⟩
theorem zch.deep {n:Nat} {s s':St} (h:zch n s s') {fr:Bool} {t:ST} {xs:List t.El} (hl:look n s.ents=some (.deep fr t xs)):∃ fr',look n s'.ents=some (.deep fr' t xs):=by
  unfold zch at h
  rw[hl] at h
  cases h':look n s'.ents with
  | none=>rw[h'] at h; cases h
  | some e =>
    rw[h'] at h
    cases e with
    | box l=>simp[frz] at h
    | arr fr' u ys=>simp[frz] at h
    | pool k=>simp[frz] at h
    | deep fr' u ys =>
      simp only[frz,Option.map_some,Option.some.injEq] at h
      cases h; exact ⟨_,rfl⟩
theorem zch.box {n:Nat} {s s':St} (h:zch n s s') {l:List A1} (hl:look n s.ents=some (.box l)):look n s'.ents=some (.box l):=by
  unfold zch at h
  rw[hl] at h
  cases h':look n s'.ents with
  | none=>rw[h'] at h; cases h
  | some e =>
    rw[h'] at h
    cases e with
    | box l'=>simp only[frz,Option.map_some,Option.some.injEq] at h; rw[h]
    | arr fr' u ys=>simp[frz] at h
    | deep _ u ys=>simp[frz] at h
    | pool k=>simp[frz] at h
theorem zch.some {n:Nat} {s s':St} (h:zch n s s') {e:Ent} (hl:look n s.ents=some e):∃ e',look n s'.ents=some e':=by
  unfold zch at h
  rw[hl] at h
  cases h':look n s'.ents with
  | none=>rw[h'] at h; cases h
  | some e=>exact ⟨e,rfl⟩
section
variable {s s' s1:St} {av:AV} {lay:List (TypeId × TI)} {cons:List (FuncId × Con)} {o:Oper}
theorem zqQ {i:TI} {a:A1} (h:∀ n∈a.nms,zch n s s') (hy:(lenOp s i a).Yields (av,s1)):s1=s∧(lenOp s' i a).Yields (av,s'):=by
  unfold lenOp at hy ⊢
  cases a with
  | d c =>
    cases c with
    | str a =>
      simp only at hy ⊢
      split at hy
      · cases hy; exact ⟨rfl,rfl⟩
      · exact hy.elim
    | sl t xs =>
      simp only at hy ⊢
      split at hy
      · exact hy.elim
      · cases hy; exact ⟨rfl,rfl⟩
    | int k n=>simp only at hy; split at hy<;>exact hy.elim
    | bool b=>simp only at hy; split at hy<;>exact hy.elim
    | tok k=>simp only at hy; split at hy<;>exact hy.elim
    | any=>simp only at hy; split at hy<;>exact hy.elim
  | mt =>
    simp only at hy ⊢
    split at hy
    · exact hy.elim
    · cases hy; exact ⟨rfl,rfl⟩
  | own n =>
    have hn:=h n (by simp[A1.nms])
    simp only at hy ⊢
    split at hy
    · exact hy.elim
    · split at hy
      · rename_i hl
        obtain ⟨fr',hl'⟩:=hn.arr hl
        rw[hl']
        cases hy; exact ⟨rfl,rfl⟩
      · exact hy.elim
  | win n lo k =>
    have hn:=h n (by simp[A1.nms])
    simp only at hy ⊢
    split at hy
    · exact hy.elim
    · split at hy
      · rename_i hl
        obtain ⟨fr',hl'⟩:=hn.arr hl
        rw[hl']
        cases hy; exact ⟨rfl,rfl⟩
      · exact hy.elim
  | bot=>simp only at hy; split at hy<;>exact hy.elim
  | lp n k=>simp only at hy; split at hy<;>exact hy.elim
  | sp c k=>simp only at hy; split at hy<;>exact hy.elim
  | oe n j k=>simp only at hy; split at hy<;>exact hy.elim
  | de n j k=>simp only at hy; split at hy<;>exact hy.elim
  | fn f c=>simp only at hy; split at hy<;>exact hy.elim
  | dp n =>
    have hn:=h n (by simp[A1.nms])
    simp only at hy ⊢
    split at hy
    · exact hy.elim
    · split at hy
      · rename_i hl
        obtain ⟨fr',hl'⟩:=hn.deep hl
        rw[hl']
        cases hy; exact ⟨rfl,rfl⟩
      · exact hy.elim
  | dc n i j ys =>
    have hn:=h n (by simp[A1.nms])
    simp only at hy ⊢
    split at hy
    · exact hy.elim
    · split at hy
      · rename_i hl
        obtain ⟨fr',hl'⟩:=hn.deep hl
        rw[hl']
        cases hy; exact ⟨rfl,rfl⟩
      · exact hy.elim
theorem zum {e:ST} {a:A1} {i:Int} (h:∀ n∈a.nms,zch n s s') (hy:(indexOp s e a i).Yields (av,s1)):s1=s∧(indexOp s' e a i).Yields (av,s'):=by
  unfold indexOp at hy ⊢
  cases a with
  | d c =>
    cases c with
    | sl t xs =>
      simp only at hy ⊢
      split at hy
      · obtain ⟨r,h1,h2⟩:=hy; cases h2; exact ⟨rfl,r,h1,rfl⟩
      · exact hy.elim
    | str a=>exact hy.elim
    | int k n=>exact hy.elim
    | bool b=>exact hy.elim
    | tok k=>exact hy.elim
    | any=>exact hy.elim
  | own n =>
    have hn:=h n (by simp[A1.nms])
    simp only at hy ⊢
    split at hy
    · rename_i hl
      obtain ⟨fr',hl'⟩:=hn.arr hl
      rw[hl']
      simp only
      split at hy
      · obtain ⟨r,h1,h2⟩:=hy; cases h2; exact ⟨rfl,r,h1,rfl⟩
      · exact hy.elim
    · exact hy.elim
  | win n lo k =>
    have hn:=h n (by simp[A1.nms])
    simp only at hy ⊢
    split at hy
    · rename_i hl
      obtain ⟨fr',hl'⟩:=hn.arr hl
      rw[hl']
      simp only
      split at hy
      · obtain ⟨r,h1,h2⟩:=hy; cases h2; exact ⟨rfl,r,h1,rfl⟩
      · exact hy.elim
    · exact hy.elim
  | dp n =>
    have hn:=h n (by simp[A1.nms])
    simp only at hy ⊢
    split at hy
    · rename_i hl
      obtain ⟨fr',hl'⟩:=hn.deep hl
      rw[hl']
      simp only
      split at hy
      · obtain ⟨r,h1,h2⟩:=hy; cases h2; exact ⟨rfl,r,h1,rfl⟩
      · exact hy.elim
    · exact hy.elim
  | bot=>exact hy.elim
  | mt=>exact hy.elim
  | lp n k=>exact hy.elim
  | sp c k=>exact hy.elim
  | oe n j k=>exact hy.elim
  | de n j k=>exact hy.elim
  | dc n i j ys=>exact hy.elim
  | fn f c=>exact hy.elim
theorem zyA {g:Bool} {k:Nat} {a:A1} (h:∀ n∈a.nms,zch n s s') (hy:(loadOp s g k a).Yields (av,s1)):s1=s∧(loadOp s' g k a).Yields (av,s'):=by
  unfold loadOp at hy ⊢
  cases a with
  | lp n off =>
    have hn:=h n (by simp[A1.nms])
    simp only at hy ⊢
    split at hy
    · rename_i hl
      rw[hn.box hl]
      simp only
      split at hy
      · cases hy; exact ⟨rfl,rfl⟩
      · exact hy.elim
    · exact hy.elim
  | sp c off =>
    simp only at hy ⊢
    split at hy
    · cases hy; exact ⟨rfl,rfl⟩
    · exact hy.elim
  | oe n j off =>
    have hn:=h n (by simp[A1.nms])
    simp only at hy ⊢
    split at hy
    · rename_i hl
      obtain ⟨fr',hl'⟩:=hn.arr hl
      rw[hl']
      simp only
      split at hy
      · obtain ⟨r,h1,h2⟩:=hy; cases h2; exact ⟨rfl,r,h1,rfl⟩
      · exact hy.elim
    · exact hy.elim
  | de n j off =>
    have hn:=h n (by simp[A1.nms])
    simp only at hy ⊢
    split at hy
    · rename_i hl
      obtain ⟨fr',hl'⟩:=hn.deep hl
      rw[hl']
      simp only
      split at hy
      · obtain ⟨r,h1,h2⟩:=hy; cases h2; exact ⟨rfl,r,h1,rfl⟩
      · exact hy.elim
    · exact hy.elim
  | d c=>exact hy.elim
  | own n=>exact hy.elim
  | win n lo k=>exact hy.elim
  | bot=>exact hy.elim
  | mt=>exact hy.elim
  | dp n=>exact hy.elim
  | dc n i j ys=>exact hy.elim
  | fn f c=>exact hy.elim
theorem ztb {i:TI} {a:A1} {lo hi:Option AV} (h:∀ n∈a.nms,zch n s s') (hy:(sliceOp s i a lo hi).Yields (av,s1)):s1=s∧(sliceOp s' i a lo hi).Yields (av,s'):=by
  unfold sliceOp at hy ⊢
  cases a with
  | d c =>
    cases c with
    | sl t xs =>
      simp only at hy ⊢
      split at hy
      · obtain ⟨r,h1,h2⟩:=hy; cases h2; exact ⟨rfl,r,h1,rfl⟩
      · exact hy.elim
    | str a =>
      simp only at hy ⊢
      split at hy
      · obtain ⟨r,h1,h2⟩:=hy; cases h2; exact ⟨rfl,r,h1,rfl⟩
      · exact hy.elim
    | int k n=>exact hy.elim
    | bool b=>exact hy.elim
    | tok k=>exact hy.elim
    | any=>exact hy.elim
  | own n =>
    have hn:=h n (by simp[A1.nms])
    simp only at hy ⊢
    split at hy
    · rename_i hl
      obtain ⟨fr',hl'⟩:=hn.arr hl
      rw[hl']
      simp only
      split at hy
      · obtain ⟨r,h1,h2⟩:=hy; cases h2; exact ⟨rfl,r,h1,rfl⟩
      · exact hy.elim
    · exact hy.elim
  | lp n off=>exact hy.elim
  | sp c off=>exact hy.elim
  | oe n j off=>exact hy.elim
  | win n lo k=>exact hy.elim
  | bot=>exact hy.elim
  | mt=>exact hy.elim
  | dp n=>exact hy.elim
  | de n j k=>exact hy.elim
  | dc n i j ys=>exact hy.elim
  | fn f c=>exact hy.elim
theorem parts_local {fs:List (Nat × Nat × Bool)}:∀ {ps:List (Nat × Operand)} {l:List A1},(∀ p∈ps,zaX s' p.2=zaX s p.2)→partsOf fs s' ps l=partsOf fs s ps l
  | [],l,_=>rfl
  | (i, x) :: r,l,h=>by
    have hx:=h _ (List.mem_cons_self ..)
    simp only at hx
    unfold partsOf
    rw[hx]
    split
    · split
      · split
        · split
          · exact parts_local fun p hp=>h p (List.mem_cons_of_mem _ hp)
          · rfl
        · rfl
      · rfl
    · rfl
theorem zrM (t:ST) (xs:List t.El):ST.cast t t xs=some xs:=by cases t<;>rfl
theorem zr2 {t:ST} {a:A1} {xs:List t.El} (h:∀ n∈a.nms,zch n s s') (hl:zh2 s.ents t a=some xs):zh2 s'.ents t a=some xs:=by
  obtain ⟨hd,hl⟩:=zr3 hl
  unfold zh2
  rw[hd]
  show a.as s'.ents (.sl t)=some xs
  cases a with
  | own n =>
    obtain ⟨fr,h1⟩:=zxB hl
    obtain ⟨fr',h2⟩:=(h n (by simp[A1.nms])).arr h1
    show (match look n s'.ents with | some (.arr _ u xs)=>ST.cast u t xs | _=>none)=some xs
    rw[h2]; exact zrM t xs
  | win n lo k =>
    obtain ⟨fr,ys,h1,rfl⟩:=zEi hl
    obtain ⟨fr',h2⟩:=(h n (by simp[A1.nms])).arr h1
    show (match look n s'.ents with | some (.arr _ u xs)=>ST.cast u t (cut xs lo (lo+k)) | _=>none)=some (cut ys lo (lo+k))
    rw[h2]; exact zrM t _
  | d c=>exact hl
  | mt=>exact hl
  | dp n=>cases hd
  | de n i k=>cases hd
  | dc n i k ys=>cases hd
  | bot=>simp[A1.as] at hl
  | lp n k=>simp[A1.as] at hl
  | sp c k=>simp[A1.as] at hl
  | oe n i k=>simp[A1.as] at hl
  | fn f c=>simp[A1.as] at hl
theorem zeo {a:AV} {b:A1} (h:addrOf a=some b):b.nms ⊆ a.nms:=by
  unfold addrOf at h
  split at h
  · cases h; simp[AV.nms,zvw]
  · cases h
theorem zCN {k:IntKind} {a b:Int} {op:BinOp} (hy:(zul s k a b op).Yields (av,s1)):s1=s∧(zul s' k a b op).Yields (av,s'):=by
  cases op<;>simp only[zul] at hy ⊢<;>first | (exact hy.elim) | (cases hy; exact ⟨rfl,rfl⟩) | (obtain ⟨r,h1,h2⟩:=hy; cases h2; exact ⟨rfl,r,h1,rfl⟩)
theorem zEc {g:Bool} {op:BinOp} {x y:AV} (hy:(binOp s g op x y).Yields (av,s1)):s1=s∧(binOp s' g op x y).Yields (av,s'):=by
  unfold binOp at hy ⊢
  split at hy
  · split at hy
    · exact zCN hy
    · split at hy
      · obtain ⟨r,h1,h2⟩:=hy; cases h2; exact ⟨rfl,r,h1,rfl⟩
      · exact hy.elim
  · split at hy
    · split at hy
      · cases hy; exact ⟨rfl,rfl⟩
      · cases hy; exact ⟨rfl,rfl⟩
      · exact hy.elim
    · exact hy.elim
  · split at hy
    · cases hy; exact ⟨rfl,rfl⟩
    · cases hy; exact ⟨rfl,rfl⟩
    · obtain ⟨r,h1,h2⟩:=hy; cases h2; exact ⟨rfl,r,h1,rfl⟩
    · exact hy.elim
  · exact hy.elim
theorem pure_local (hp:zgC o=true) (hop:∀ x∈o.op.operands,zaX s' x=zaX s x) (hlk:∀ x∈o.op.operands,∀ n∈(zaX s x).nms,zch n s s')
    (hy:(evalOp lay cons o s).Yields (av,s1)):s1=s∧(evalOp lay cons o s').Yields (av,s'):=by
  unfold zgC at hp
  unfold evalOp at hy ⊢
  cases ho:o.op with
  | move x =>
    simp only[ho,Op.operands] at hop hy ⊢
    rw[hop x (by simp)]; cases hy; exact ⟨rfl,rfl⟩
  | assign x =>
    simp only[ho,Op.operands] at hop hy ⊢
    rw[hop x (by simp)]; cases hy; exact ⟨rfl,rfl⟩
  | pick c x y =>
    simp only[ho,Op.operands] at hop hy ⊢
    rw[hop c (by simp),hop x (by simp),hop y (by simp)]
    split at hy
    · cases hy; exact ⟨rfl,rfl⟩
    · split at hy<;>(cases hy; exact ⟨rfl,rfl⟩)
    · exact hy.elim
  | build t ps =>
    simp only[ho,Op.operands] at hop hy ⊢
    split at hy
    · rename_i i hi
      rw[parts_local (s:=s) (s':=s') fun p hp=>hop p.2 (by simp; exact ⟨p.1,by simpa using hp⟩)]
      split at hy
      · cases hy; exact ⟨rfl,rfl⟩
      · exact hy.elim
    · exact hy.elim
  | load t x =>
    simp only[ho,Op.operands] at hop hlk hy ⊢
    rw[hop x (by simp)]
    split at hy
    · rename_i hi ha
      exact zyA (fun n hn=>hlk x (by simp) n (zeo ha hn)) hy
    · exact hy.elim
  | binOp b t x y u =>
    simp only[ho,Op.operands] at hop hy ⊢
    rw[hop x (by simp),hop y (by simp)]
    exact zEc hy
  | unOp u t x =>
    simp only[ho,Op.operands] at hop hy ⊢
    rw[hop x (by simp)]
    split at hy
    · cases hy; exact ⟨rfl,rfl⟩
    · cases hy; exact ⟨rfl,rfl⟩
    · exact hy.elim
  | convert u t x =>
    simp only[ho,Op.operands] at hop hlk hy ⊢
    rw[hop x (by simp)]
    split at hy
    · cases hy; exact ⟨rfl,rfl⟩
    · rename_i b hi h1 hint
      split at hy
      · rename_i xs hb hl
        rw[zr2 (s':=s') (fun n hn=>hlk x (by simp) n (zeo (by rw[h1]; rfl) hn)) hl,hb]
        cases hy
        exact ⟨rfl,rfl⟩
      · exact hy.elim
    · exact hy.elim
  | nilCheck x =>
    simp only[ho,Op.operands] at hop hlk hy ⊢
    rw[hop x (by simp)]
    split at hy
    · rename_i ha
      split at hy
      · rename_i hl
        obtain ⟨e',he'⟩:=(hlk x (by simp) _ (zeo ha (by simp[A1.nms]))).some hl
        rw[he']; cases hy; exact ⟨rfl,rfl⟩
      · exact hy.elim
    · cases hy; exact ⟨rfl,rfl⟩
    · rename_i ha
      split at hy
      · rename_i hl
        obtain ⟨fr',he'⟩:=(hlk x (by simp) _ (zeo ha (by simp[A1.nms]))).arr hl
        rw[he']; cases hy; exact ⟨rfl,rfl⟩
      · exact hy.elim
    · rename_i ha
      split at hy
      · rename_i hl
        obtain ⟨fr',he'⟩:=(hlk x (by simp) _ (zeo ha (by simp[A1.nms]))).deep hl
        rw[he']; cases hy; exact ⟨rfl,rfl⟩
      · exact hy.elim
    · exact hy.elim
  | slice t x lo hi mx =>
    cases mx with
    | some m=>simp[ho] at hp
    | none =>
      simp only[ho,Op.operands] at hop hlk hy ⊢
      have hlo:lo.map (zaX s')=lo.map (zaX s):=by
        cases lo with
        | none=>rfl
        | some z=>simp only[Option.map_some]; rw[hop z (by simp)]
      have hhi:hi.map (zaX s')=hi.map (zaX s):=by
        cases hi with
        | none=>rfl
        | some z=>simp only[Option.map_some]; rw[hop z (by simp)]
      rw[hop x (by simp),hlo,hhi]
      split at hy
      · rename_i ha
        exact ztb (fun n hn=>hlk x (by simp) n (zeo ha hn)) hy
      · exact hy.elim
  | fieldAddr t x f =>
    simp only[ho,Op.operands] at hop hlk hy ⊢
    rw[hop x (by simp)]
    split at hy
    · rename_i hi ha
      split at hy
      · rename_i hst hf
        split at hy
        · rename_i hl
          obtain ⟨e',he'⟩:=(hlk x (by simp) _ (zeo ha (by simp[A1.nms]))).some hl
          rw[he']; cases hy; exact ⟨rfl,rfl⟩
        · exact hy.elim
      · cases hy; exact ⟨rfl,rfl⟩
      · rename_i hst hf
        split at hy
        · rename_i hl
          obtain ⟨fr',he'⟩:=(hlk x (by simp) _ (zeo ha (by simp[A1.nms]))).arr hl
          rw[he']; cases hy; exact ⟨rfl,rfl⟩
        · exact hy.elim
      · rename_i hst hf
        split at hy
        · rename_i hl
          obtain ⟨fr',he'⟩:=(hlk x (by simp) _ (zeo ha (by simp[A1.nms]))).deep hl
          rw[he']
          cases hy; exact ⟨rfl,rfl⟩
        · exact hy.elim
      · exact hy.elim
    · exact hy.elim
  | field t x f =>
    simp only[ho,Op.operands] at hop hy ⊢
    rw[hop x (by simp)]
    split at hy
    · split at hy
      · split at hy
        · cases hy; exact ⟨rfl,rfl⟩
        · exact hy.elim
      · exact hy.elim
    · exact hy.elim
  | indexAddr t x y =>
    simp only[ho,Op.operands] at hop hlk hy ⊢
    rw[hop x (by simp),hop y (by simp)]
    split at hy
    · rename_i ha hj
      exact zum (fun n hn=>hlk x (by simp) n (zeo ha hn)) hy
    · exact hy.elim
  | index t x y =>
    simp only[ho,Op.operands] at hop hy ⊢
    rw[hop x (by simp),hop y (by simp)]
    split at hy
    · obtain ⟨r,h1,h2⟩:=hy; cases h2; exact ⟨rfl,r,h1,rfl⟩
    · exact hy.elim
  | extract x f =>
    simp only[ho,Op.operands] at hop hy ⊢
    rw[hop x (by simp)]
    split at hy
    · split at hy
      · cases hy; exact ⟨rfl,rfl⟩
      · exact hy.elim
    · exact hy.elim
  | buildSlice t len ps =>
    cases len with
    | succ n=>simp[ho] at hp
    | zero =>
      simp only[ho] at hy ⊢
      split at hy
      · cases hy; exact ⟨rfl,rfl⟩
      · exact hy.elim
  | call c =>
    obtain ⟨callee,args,ts⟩:=c
    cases callee with
    | invoke r m=>simp[ho] at hp
    | value f=>simp[ho] at hp
    | builtin b =>
      cases b<;>try (simp[ho] at hp; done)
      case len =>
        simp only[ho,Op.operands,Call.operands] at hop hlk hy ⊢
        split at hy
        · rename_i x t hx ht
          have hm:x∈args.toList:=by rw[hx]; simp
          rw[hop x (by simpa using hm)]
          split at hy
          · rename_i hi ha
            exact zqQ (fun n hn=>hlk x (by simpa using hm) n (zeo ha hn)) hy
          · exact hy.elim
        · exact hy.elim
  | _=>simp[ho] at hp
end
end Go.Di
open Go.RowKit (Below)
namespace Go.Di
structure Keep (T K:Nat→Prop) (s s':St):Prop where
  lk:∀ n,¬ T n→(∀ l,look n s.ents=some (.box l)→∀ m∈zvw l,¬ K m)→zch n s s'
  env:∀ (t:Nat) a,s.env[t]? = some a→(∀ m∈a.nms,¬ K m)→s'.env[t]? = some a
  len:s'.env.length=s.env.length
theorem zLJ (e:Ent):frz (frz e)=frz e:=by cases e<;>rfl
theorem Keep.refl (T K:Nat→Prop) (s:St):Keep T K s s:=⟨fun _ _ _=>rfl,fun _ _ h _=>h,rfl⟩
theorem Keep.trans {T K:Nat→Prop} {s s1 s2:St} (h:Keep T K s s1) (k:Keep T K s1 s2):Keep T K s s2 where
  lk n hn hb:=by
    have h1:=h.lk n hn hb
    have h2:=k.lk n hn fun l hl=>by
      cases h':look n s.ents with
      | none=>unfold zch at h1; rw[h',hl] at h1; cases h1
      | some e =>
        cases e with
        | box l'=>rw[h1.box h'] at hl; cases hl; exact hb l h'
        | arr fr t xs=>obtain ⟨fr',h2⟩:=h1.arr h'; rw[h2] at hl; cases hl
        | deep fr t xs=>obtain ⟨fr',h2⟩:=h1.deep h'; rw[h2] at hl; cases hl
        | pool k=>have h1':(look n s1.ents).map frz=(look n s.ents).map frz:=h1; rw[h',hl] at h1'; cases h1'
    unfold zch at *
    rw[h2,h1]
  env t a ha hm:=k.env t a (h.env t a ha hm) hm
  len:=k.len.trans h.len
theorem zkn {m:Nat}:∀ {l:List A1},m ∉ zvw l→zdL m l=l
  | [],_=>rfl
  | a :: r,h=>by
    simp only[zvw,List.mem_append,not_or] at h
    unfold zdL
    rw[zkn h.2]
    congr 1
    cases a with
    | dc n i o ys =>
      simp only[A1.nms,List.mem_cons,List.not_mem_nil,or_false,not_or] at h
      simp only[A1.kill]
      split
      · rename_i hb; exact absurd (Nat.eq_of_beq_eq_true hb) h.1.1
      · split
        · rename_i hb; exact absurd (Nat.eq_of_beq_eq_true hb) h.1.2
        · rfl
    | _=>(simp only[A1.kill]<;>simp only[A1.nms,List.mem_singleton] at h<;>(split<;>first | rfl | (rename_i hb; simp at hb; exact absurd hb h.1)))
theorem zvD {m:Nat}:∀ {l:List (Bool × List A1)},m ∉ zKz l→zCI m l=l
  | [],_=>rfl
  | (b,a) :: r,h=>by
    simp only[zKz,List.mem_append,not_or] at h
    unfold zCI
    rw[zvD h.2,zkn h.1]
theorem zLD {m:Nat} {a:AV} (h:m ∉ a.nms):a.kill m=a:=by
  cases a with
  | v b l=>simp only[AV.kill]; rw[zkn h]
  | tup ps=>simp only[AV.kill]; rw[zvD h]
theorem Keep.free {T K:Nat→Prop} {s:St} {m:Nat} (hm:T m) (hM:K m):Keep T K s (s.free m) where
  lk n hn hb:=by
    have hne:n≠m:=fun e=>hn (e▸hm)
    unfold zch
    rw[za3,if_neg hne]
    cases h:look n s.ents with
    | none=>rfl
    | some e =>
      cases e with
      | box l=>simp only[Option.map_some,Ent.kill]; rw[zkn fun h'=>hb l h m h' hM]
      | arr fr t xs=>rfl
      | deep fr t xs=>rfl
      | pool k=>rfl
  env t a ha hms:=by
    have hk:a.kill m=a:=zLD fun h'=>hms m h' hM
    simp only[St.free]
    rw[zeh,ha,Option.map_some,hk]
  len:=zea m s.env
theorem Keep.zlY {T K:Nat→Prop}:∀ {l:List (Nat × Ent)} {s:St},(∀ m∈names l,T m∧K m)→Keep T K s (St.zlY l s)
  | [],s,_=>Keep.refl T K s
  | (n,e) :: r,s,h=>(Keep.free (h n (by simp[names])).1 (h n (by simp[names])).2).trans (Keep.zlY fun m hm=>h m (by simp only[names,List.map_cons,List.mem_cons] at hm ⊢; exact .inr hm))
theorem Keep.zaZ {T K:Nat→Prop}:∀ {l:List Nat} {s:St},(∀ m∈l,T m∧K m)→Keep T K s (St.zaZ l s)
  | [],s,_=>Keep.refl T K s
  | n :: _r,_s,h=>(Keep.free (h n (List.mem_cons_self ..)).1 (h n (List.mem_cons_self ..)).2).trans (Keep.zaZ fun m hm=>h m (List.mem_cons_of_mem _ hm))
theorem Keep.put {T K:Nat→Prop} {s:St} {n:Nat} {e:Ent} (hn:T n):Keep T K s ⟨s.env,put n e s.ents⟩ where
  lk m hm _:=by
    have hne:m≠n:=fun e=>hm (e▸hn)
    unfold zch
    rw[za6,if_neg hne]
  env t a ha _:=ha
  len:=rfl
theorem Keep.zhD {T K:Nat→Prop} {s:St} {l:List (Nat × Ent)} (h:∀ m∈names l,T m):Keep T K s ⟨s.env,zhD l s.ents⟩ where
  lk m hm _:=by
    unfold zch
    rw[za2 m l s.ents fun h'=>hm (h m h')]
  env t a ha _:=ha
  len:=rfl
theorem Keep.ztj {T K:Nat→Prop} {s:St} {l:List (Nat × Ent)} (h:∀ m∈names l,T m∧K m):Keep T K s (St.ztj l s) :=
  (Keep.zlY h).trans (Keep.zhD (s:=St.zlY l s) fun m hm=>(h m hm).1)
theorem Keep.push {T K:Nat→Prop} {s:St} {n:Nat} {e:Ent} (h:T n) (hK:K n):Keep T K s (St.push n e s) :=
  Keep.ztj fun m hm=>by simp[names] at hm; exact hm▸⟨h,hK⟩
theorem Keep.freeze1 {T K:Nat→Prop} {s:St} (n:Nat):Keep T K s ⟨s.env,Go.Di.freeze1 n s.ents⟩ where
  lk m _ _:=by
    unfold zch
    rw[look_freeze1]
    split
    · cases look m s.ents with
      | none=>rfl
      | some e=>simp only[Option.map_some,zLJ]
    · rfl
  env t a ha _:=ha
  len:=rfl
theorem Keep.zat {T K:Nat→Prop}:∀ {l:List A1} {s:St},Keep T K s ⟨s.env,Go.Di.zat l s.ents⟩
  | [],s=>Keep.refl T K s
  | a :: r,s=>by
    have h1:Keep T K s ⟨s.env,a.freeze s.ents⟩:=by
      cases a<;>first | exact Keep.refl T K s | exact Keep.freeze1 _
    exact h1.trans (Keep.zat (s:=⟨s.env,a.freeze s.ents⟩))
theorem zEQ {m:Nat} {cs:List Cell} {a:A1} (h:m ∉ a.nms):a.shut m cs=a:=by
  have hk:a.kill m=a:=by
    have:=zkn (m:=m) (l:=[a]) (by simpa [zvw] using h)
    simpa [zdL] using this
  cases a with
  | lp n off =>
    simp only[A1.shut]
    split
    · rename_i hb; exact absurd (by simp[A1.nms,Nat.eq_of_beq_eq_true hb]) h
    · rfl
  | _=>exact hk
theorem zl4 {m:Nat} {cs:List Cell}:∀ {l:List A1},m ∉ zvw l→zoQ m cs l=l
  | [],_=>rfl
  | a :: r,h=>by
    simp only[zvw,List.mem_append,not_or] at h
    unfold zoQ
    rw[zl4 h.2,zEQ h.1]
theorem zvj {m:Nat} {cs:List Cell}:∀ {l:List (Bool × List A1)},m ∉ zKz l→zEO m cs l=l
  | [],_=>rfl
  | (b,a) :: r,h=>by
    simp only[zKz,List.mem_append,not_or] at h
    unfold zEO
    rw[zvj h.2,zl4 h.1]
theorem zKq {m:Nat} {cs:List Cell} {a:AV} (h:m ∉ a.nms):a.shut m cs=a:=by
  cases a with
  | v b l=>simp only[AV.shut]; rw[zl4 h]
  | tup ps=>simp only[AV.shut]; rw[zvj h]
theorem Keep.shut {T K:Nat→Prop} {s:St} {m:Nat} {cs:List Cell} (hm:T m) (hM:K m):Keep T K s (s.shut m cs) where
  lk n hn hb:=by
    have hne:n≠m:=fun e=>hn (e▸hm)
    unfold zch
    rw[zef,if_neg hne]
    cases h:look n s.ents with
    | none=>rfl
    | some e =>
      cases e with
      | box l=>simp only[Option.map_some,Ent.shut]; rw[zl4 fun h'=>hb l h m h' hM]
      | arr fr t xs=>rfl
      | deep fr t xs=>rfl
      | pool k=>rfl
  env t a ha hms:=by
    have hk:a.shut m cs=a:=zKq fun h'=>hms m h' hM
    simp only[St.shut]
    rw[zm0,ha,Option.map_some,hk]
  len:=zhN m cs s.env
theorem Keep.seal1 {T K:Nat→Prop} (hT:∀ n,T n∧K n) {s s1:St} {b:AV} {cs:List Cell} (h:seal1 s b=some (cs,s1)):Keep T K s s1:=by
  unfold Go.Di.seal1 at h
  split at h
  · cases h; exact Keep.refl _ _ _
  · split at h
    · split at h
      · cases h
        exact Keep.zat.trans (Keep.shut (hT _).1 (hT _).2)
      · cases h
    · cases h
  · cases h
theorem Keep.sealCaps {T K:Nat→Prop} (hT:∀ n,T n∧K n):∀ {xs:List Operand} {s s1:St} {css:List (List Cell)},sealCaps s xs=some (css,s1)→Keep T K s s1
  | [],s,s1,css,h=>by cases h; exact Keep.refl _ _ _
  | x :: r,s,s1,css,h=>by
    unfold Go.Di.sealCaps at h
    split at h
    · rename_i h1
      split at h
      · rename_i h2
        cases h
        exact (Keep.seal1 hT h1).trans (Keep.sealCaps hT h2)
      · cases h
    · cases h
section
variable {s s' s1:St} {av:AV} {lay:List (TypeId × TI)} {cons:List (FuncId × Con)} {o:Oper}
theorem zgG (d:Nat):Nat.beq (nm d / 64) d=true:=by
  have:nm d / 64=d:=by unfold nm; omega
  rw[this]; simp
theorem ztf {T K:Nat→Prop} {m:Nat} {p:AV × St} (hm:T m∧K m) (hP:T PN):Keep T K p.2 (zoM m p).2:=by
  unfold zoM
  split
  · exact (Keep.free hm.1 hm.2).trans (Keep.put (s:=p.2.free m) hP)
  · exact ((Keep.free hm.1 hm.2).trans (Keep.put (s:=p.2.free m) hm.1)).trans (Keep.put (s:=⟨(p.2.free m).env,put m _ (p.2.free m).ents⟩) hP)
  · exact Keep.refl _ _ _
theorem zjP {T K:Nat→Prop} (hP:T PN):∀ {l:List Nat} {p:AV × St},(∀ m∈l,T m∧K m)→Keep T K p.2 (zte l p).2
  | [],_p,_=>Keep.refl _ _ _
  | m :: r,p,h=>(ztf (h m (List.mem_cons_self ..)) hP).trans (zjP hP (l:=r) (p:=zoM m p) fun k hk=>h k (List.mem_cons_of_mem _ hk))
theorem ztc {T K:Nat→Prop} (hP:T PN) {d:Nat} (hd:∀ q,q < 63→T (nm d+q)∧K (nm d+q)) {p:AV × St}:Keep T K p.2 (ztd d p).2:=by
  have key:∀ m,m % 64≠63∧m / 64=d→T m∧K m:=fun m ⟨h1,h2⟩=>by
    have:m=nm d+m % 64:=by unfold nm; omega
    rw[this]
    exact hd _ (by omega)
  unfold ztd
  split
  · split
    · exact zjP hP fun m hm=>key m (zoZ hm)
    · exact zjP hP fun m hm=>key m (ztn hm)
  · exact Keep.refl _ _ _
theorem call_keeps {T K:Nat→Prop} {c:Con} {avs:List AV} (hy:(zon s (o.dst.getD 0) c avs).Yields (av,s')) (hdst:∀ q,q < 63→T (nm (o.dst.getD 0)+q)∧K (nm (o.dst.getD 0)+q))
    (hin:∀ q,q∈namesT c.sig.ins→T (zaC (c.sig.tin.src ⟨avs,zaI s c.sig avs⟩) q)) (hgo:∀ m,m∈zjH (c.sig.tin.src ⟨avs,zaI s c.sig avs⟩) (namesT c.sig.outs) c.sig.ins→K m) (hst:∀ m,m∈zhJ (c.sig.tin.src ⟨avs,zaI s c.sig avs⟩) c.sig.ins→T m∧K m) (hP:T PN):Keep T K s s':=by
  unfold zon at hy
  split at hy
  · rename_i x hx hb
    obtain ⟨hb1,_⟩:=Bool.and_eq_true_iff.1 hb
    obtain ⟨_,hfine⟩:=Bool.and_eq_true_iff.1 hb1
    obtain ⟨y,h1,h2⟩:=hy
    obtain ⟨rfl,rfl⟩:=Prod.mk.inj h2
    refine Keep.trans ?_ (ztc hP hdst)
    obtain ⟨_,hfine⟩:=zxD hfine
    obtain ⟨nd,hf2⟩:=zxD hfine
    obtain ⟨hpinIn,_⟩:=zxD hf2
    generalize c.sig.tin.src ⟨avs,zaI s c.sig avs⟩=src at *
    have hname:∀ q t,(q,t)∈c.sig.outs→T (zci src (o.dst.getD 0) q):=fun q t hq=>by
      rcases pinIn_ok hpinIn hq with ⟨h63,hh⟩ | ⟨h63,hlt,_⟩
      · have hq':q∈namesT c.sig.ins:=by
          rcases hh with ⟨l1,l2,hh,_⟩ | ⟨t',hh,_⟩ | ⟨t',hh,_⟩<;>exact za0 (zgL hh)
        have:zci src (o.dst.getD 0) q=zaC src q:=by
          unfold zci; rw[h63]
        rw[this]; exact hin q hq'
      · have:zci src (o.dst.getD 0) q=nm (o.dst.getD 0)+q:=by
          unfold zci
          have hb:Nat.beq (q % 64) 63=false:=by rw[Bool.eq_false_iff]; intro hb; exact h63 (Nat.eq_of_beq_eq_true hb)
          rw[hb]
        rw[this]; exact (hdst q hlt).1
    have h1:Keep T K s ⟨s.env,zaI s c.sig avs⟩:=by
      unfold zaI
      split
      · exact Keep.zat
      · exact Keep.refl _ _ _
    refine h1.trans ?_
    refine (Keep.zaZ fun m hm=>?_).trans (Keep.zhD fun m hm=>?_)
    · rcases List.mem_append.1 hm with hm | hm
      · rcases List.mem_append.1 hm with hm | hm
        · have hK:=hgo m hm
          obtain ⟨p,t,hp,rfl,_⟩:=zgH hm
          exact ⟨hin p (za0 hp),hK⟩
        · obtain ⟨q,t,hq,h63,rfl⟩:=zeT hm
          refine ⟨hname q t hq,?_⟩
          rcases pinIn_ok hpinIn hq with ⟨h63',_⟩ | ⟨_,hlt,_⟩
          · exact absurd h63' h63
          · have:zci src (o.dst.getD 0) q=nm (o.dst.getD 0)+q:=by
              unfold zci
              have hb:Nat.beq (q % 64) 63=false:=by rw[Bool.eq_false_iff]; intro hb; exact h63 (Nat.eq_of_beq_eq_true hb)
              rw[hb]
            rw[this]; exact (hdst q hlt).2
      · exact hst m hm
    · rw[zkK] at hm
      obtain ⟨q,hq,rfl⟩:=List.mem_map.1 hm
      rw[show (c.sig.zhH.enc (c.out y)).ents=zgy c.sig.outs (Tys.snd (ksS (c.sig.res.map some)) (ksE c.sig.outs) (c.out y)) from rfl,zeR] at hq
      obtain ⟨t,ht⟩:=zeS hq
      exact hname q t ht
  · exact hy.elim
theorem znY {T K:Nat→Prop} {n j off:Nat} {c:List A1} (hy:(zgE s n j off c).Yields (av,s')) (hT:T n):Keep T K s s':=by
  unfold zgE at hy
  split at hy
  · obtain ⟨e,_,h2⟩:=hy
    cases h2
    exact Keep.zat.trans (Keep.put (s:=⟨s.env,zat c s.ents⟩) hT)
  · exact hy.elim
theorem zjK {es:List (Nat × Ent)}:∀ {l m:List A1} {K:List Nat},zdr es (l++m)=some K→∃ k1 k2,zdr es l=some k1∧zdr es m=some k2∧K=k1++k2
  | [],m,K,h=>⟨[],K,rfl,h,rfl⟩
  | a :: l,m,K,h=>by
    obtain ⟨k,l',e1,e2,rfl⟩:=zfe (a:=a) (r:=l++m) h
    obtain ⟨k1,k2,h1,h2,rfl⟩:=zjK e2
    refine ⟨k++k1,k2,?_,h2,by simp⟩
    unfold zdr
    rw[e1,h1]
theorem taken_mem {t:ST}:∀ {ps:List (Nat × Operand)} {k:Nat} {es:List t.El} {cs:List A1} {K:List Nat},elemsOf s t k ps=some (es,cs)→zdr s.ents cs=some K→∀ m∈K,m∈takenNms s (ps.map (·.2))
  | [],k,es,cs,K,h,ha,m,hm=>by simp only[elemsOf] at h; cases h; cases ha; cases hm
  | (j, x) :: r,k,es,cs,K,h,ha,m,hm=>by
    simp only[elemsOf] at h
    split at h
    · split at h
      · rename_i c hc
        split at h
        · split at h
          · rename_i p hp
            cases h
            obtain ⟨k1,k2,h1,h2,rfl⟩:=zjK ha
            simp only[List.map_cons,takenNms,hc,h1]
            rcases List.mem_append.1 hm with hm | hm
            · exact List.mem_append_left _ hm
            · exact List.mem_append_right _ (taken_mem (es:=p.1) (cs:=p.2) hp h2 m hm)
          · cases h
        · cases h
      · cases h
    · cases h
theorem zyL {l:List Operand} {n i off:Nat} {ys:List Int} {r:List AV} (h:opsL s l = .v false [.dc n i off ys] :: r):n∈zc7 s l∧dcn n∈zc7 s l:=by
  cases l with
  | nil=>cases h
  | cons x q =>
    simp only[opsL,List.cons.injEq] at h
    have:addrOf (zaX s x)=some (.dc n i off ys):=by rw[h.1]; rfl
    simp only[zc7,this]
    exact ⟨by simp,by simp⟩
theorem eff_keeps (hy : (evalOp lay cons o s).Yields (av,s')):Keep (fun n=>touch cons s o n=true) (fun n=>zeM cons s o n=true) s s':=by
  have hy0:=hy
  have hKg:(∀ f args ts,o.op ≠ .call ⟨.value (.func f),args,ts⟩)→(∀ t x y,o.op = .store t x y→∀ m i off,addrOf (zaX s x)≠some (.oe m i off))→∀ n,touch cons s o n=true→zeM cons s o n=true:=by
    intro h h2 n hn
    unfold zeM
    split
    · rename_i heq; exact absurd heq (h _ _ _)
    · rename_i heq
      split
      · rename_i ha; exact absurd ha (h2 _ _ _ heq _ _ _)
      · exact hn
    · exact hn
  unfold evalOp at hy
  cases ho:o.op with
  | alloc t =>
    simp only[ho] at hy
    split at hy
    · cases hy; exact Keep.push (by simp only[touch,ho]; exact zgG _) (by simp only[zeM,touch,ho]; exact zgG _)
    · exact hy.elim
  | box t x =>
    simp only[ho] at hy
    split at hy
    · split at hy
      · cases hy; exact Keep.push (by simp only[touch,ho]; exact zgG _) (by simp only[zeM,touch,ho]; exact zgG _)
      · exact hy.elim
    · exact hy.elim
  | makeSlice t x y =>
    simp only[ho] at hy
    split at hy
    · split at hy
      · split at hy
        · obtain ⟨r,h1,h2⟩:=hy; cases h2; exact Keep.push (by simp only[touch,ho]; exact zgG _) (by simp only[zeM,touch,ho]; exact zgG _)
        · obtain ⟨r,h1,h2⟩:=hy; cases h2; exact Keep.push (by simp only[touch,ho]; exact zgG _) (by simp only[zeM,touch,ho]; exact zgG _)
      · exact hy.elim
    · exact hy.elim
  | buildSlice t len ps =>
    have hK:=hKg (by rw[ho]; intro _ _ _ h; cases h) (by rw[ho]; intro _ _ _ h; cases h)
    simp only[ho] at hy
    split at hy
    · split at hy
      · cases hy; exact Keep.refl _ _ _
      · split at hy
        · rename_i es cs hes
          have hd:touch cons s o (nm (o.dst.getD 0))=true:=by simp only[touch,ho]; rw[zgG]; rfl
          split at hy
          · split at hy
            · split at hy
              · rename_i Kn habs
                split at hy
                · cases hy
                  refine (Keep.zaZ fun m hm=>(fun h=>⟨h,hK _ h⟩) (?_:touch cons s o m=true)).trans (Keep.push (s:=St.zaZ Kn s) hd (hK _ hd))
                  simp only[touch,ho]
                  rw[zaA.2 (taken_mem hes habs m hm)]; simp
                · exact hy.elim
              · exact hy.elim
            · cases hy
              exact Keep.zat.trans (Keep.push (s:=⟨s.env,zat cs s.ents⟩) hd (hK _ hd))
          · exact hy.elim
        · exact hy.elim
    · exact hy.elim
  | store t x y =>
    simp only[ho] at hy
    split at hy
    · rename_i i a c hi ha hc
      split at hy
      · unfold storeOp at hy
        split at hy
        · rename_i n off
          split at hy
          · split at hy
            · cases hy; exact Keep.put (by simp[touch,ho,ha])
            · exact hy.elim
          · exact hy.elim
        · rename_i n j
          split at hy
          · split at hy
            · split at hy
              · cases hy
                exact Keep.zat.trans (Keep.put (s:=⟨s.env,zat c s.ents⟩) (by simp[touch,ho,ha]))
              · exact hy.elim
            · exact znY hy (by simp[touch,ho,ha])
          · exact hy.elim
        · exact znY hy (by simp[touch,ho,ha])
        · rename_i n j off
          have hK:=hKg (by rw[ho]; intro _ _ _ h; cases h) (by rw[ho]; intro _ _ _ h; cases h; rw[ha]; intro _ _ _ h; cases h)
          unfold deepStore at hy
          split at hy
          · rename_i u xs Kn hl habs
            split at hy
            · obtain ⟨e',h1,h2⟩:=hy
              cases h2
              have hn:touch cons s o n=true:=by simp[touch,ho,ha]
              have hn2:touch cons s o (dcn n)=true:=by simp[touch,ho,ha]
              refine ((Keep.zaZ fun m hm=>(fun h=>⟨h,hK _ h⟩) (?_:touch cons s o m=true)).trans (Keep.free (s:=St.zaZ Kn s) hn2 (hK _ hn2))).trans (Keep.put (s:=(St.zaZ Kn s).free (dcn n)) hn)
              simp only[touch,ho,ha,takenNms,hc,habs]
              rw[zaA.2 (List.mem_append_left _ hm)]; simp
            · exact hy.elim
          · exact hy.elim
        · exact hy.elim
      · exact hy.elim
    · exact hy.elim
  | call c =>
    obtain ⟨callee,args,ts⟩:=c
    cases callee with
    | invoke r m=>simp only[ho] at hy; exact hy.elim
    | value f =>
      cases f with
      | func f =>
        simp only[ho] at hy
        split at hy
        · rename_i c hc
          split at hy
          · rename_i n i off ys r hin hinner
            have hops:opsL s args.toList = .v false [.dc n i off ys] :: r:=by
              unfold zo3 at hin
              split at hin
              · rename_i h; cases hin; exact h
              · cases hin
            obtain ⟨hn,hn2⟩:n∈zc7 s args.toList∧dcn n∈zc7 s args.toList:=zyL hops
            have ht:∀ m,m∈zc7 s args.toList→touch cons s o m=true:=fun m hm=>by
              simp only[touch,ho,hc]
              rw[zaA.2 hm]; simp
            have ht2:∀ m,m∈zc7 s args.toList→zeM cons s o m=true:=fun m hm=>by
              simp only[zeM,ho,hc]
              rw[zaA.2 hm]; simp
            unfold innerCall at hy
            split at hy
            · obtain ⟨p,h1,h2⟩:=hy
              cases h2
              exact (Keep.free (ht _ hn2) (ht2 _ hn2)).trans (Keep.put (s:=s.free (dcn n)) (ht _ hn))
            · exact hy.elim
          exact call_keeps hy (fun q hq=>by
            simp only[touch,zeM,ho,hc]
            have:(nm (o.dst.getD 0)+q) / 64=o.dst.getD 0:=by unfold nm; omega
            rw[this]; simp) (fun q hq=>by
            simp only[touch,ho,hc]
            rw[zaA.2 (List.mem_append_left _ (List.mem_map.2 ⟨q,hq,rfl⟩))]; simp) (fun m hm=>by
            simp only[zeM,ho,hc]
            rw[zaA.2 (List.mem_append_left _ hm)]; simp) (fun m hm=>by
            simp only[touch,zeM,ho,hc]
            rw[zaA.2 (List.mem_append_right _ hm),zaA.2 (List.mem_append_right _ hm)]; simp) (by
            simp only[touch,ho,hc]; simp)
        · exact hy.elim
      | tmp t =>
        simp only[ho] at hy
        split at hy
        · rename_i f css hfn
          split at hy
          · rename_i c hc
            have hK:=hKg (by rw[ho]; intro _ _ _ h; cases h) (by rw[ho]; intro _ _ _ h; cases h)
            have hin:∀ q,q∈namesT c.sig.ins→touch cons s o (zaC (c.sig.tin.src ⟨opsL s args.toList++zjC css,zaI s c.sig (opsL s args.toList++zjC css)⟩) q)=true:=fun q hq=>by
              simp only[touch,ho,hfn,hc]
              rw[zaA.2 (List.mem_append_left _ (List.mem_map.2 ⟨q,hq,rfl⟩))]; simp
            have hst:∀ m,m∈zhJ (c.sig.tin.src ⟨opsL s args.toList++zjC css,zaI s c.sig (opsL s args.toList++zjC css)⟩) c.sig.ins→touch cons s o m=true:=fun m hm=>by
              simp only[touch,ho,hfn,hc]
              rw[zaA.2 (List.mem_append_right _ hm)]; simp
            have hdst:∀ q,q < 63→touch cons s o (nm (o.dst.getD 0)+q)=true:=fun q hq=>by
              simp only[touch,ho,hfn,hc]
              have:(nm (o.dst.getD 0)+q) / 64=o.dst.getD 0:=by unfold nm; omega
              rw[this]; simp
            exact call_keeps hy (fun q hq=>⟨hdst q hq,hK _ (hdst q hq)⟩) hin (fun m hm=>by
              obtain ⟨p,t,hp,rfl,_⟩:=zgH hm
              exact hK _ (hin p (za0 hp))) (fun m hm=>⟨hst m hm,hK _ (hst m hm)⟩) (by
              simp only[touch,ho,hfn,hc]; simp)
          · exact hy.elim
        · exact hy.elim
      | const v=>simp only[ho] at hy; exact hy.elim
      | global v=>simp only[ho] at hy; exact hy.elim
    | builtin b =>
      have hK:=hKg (by rw[ho]; intro _ _ _ h; cases h) (by rw[ho]; intro _ _ _ h; cases h)
      obtain ⟨l⟩:=args
      cases b<;>try (simp only[ho] at hy; exact hy.elim)
      case max =>
        simp only[ho] at hy
        split at hy
        · split at hy
          · cases hy; exact Keep.refl _ _ _
          · exact hy.elim
        · exact hy.elim
      case len =>
        simp only[ho] at hy
        split at hy
        · split at hy
          · have:s'=s:=by
              have:=zqQ (s':=s) (fun _ _=>rfl) hy
              exact this.1
            subst this; exact Keep.refl _ _ _
          · exact hy.elim
        · exact hy.elim
      case append =>
        have hbody : ∀ x y (t:TypeId),l=[x,y]→∀ a b e,addrOf (zaX s x)=some a→(appendOp s (o.dst.getD 0) e a b).Yields (av,s')→Keep (fun n=>touch cons s o n=true) (fun n=>zeM cons s o n=true) s s':=by
          intro x y t hl a b e ha hy
          have hd:touch cons s o (nm (o.dst.getD 0))=true:=by
            simp only[touch,ho,hl]
            split
            · simp[zgG]
            · rw[zgG]; rfl
          unfold appendOp at hy
          split at hy
          · split at hy
            · obtain ⟨r,h1,h2⟩:=hy; cases h2
              exact Keep.push hd (hK _ hd)
            · rename_i n
              split at hy
              · split at hy
                · obtain ⟨r,h1,h2⟩:=hy; cases h2
                  have hn:touch cons s o n=true:=by
                    simp only[touch,ho,hl,ha]; simp
                  exact (Keep.free hn (hK _ hn)).trans (Keep.push (s:=s.free n) hd (hK _ hd))
                · exact hy.elim
              · exact hy.elim
            · exact hy.elim
          · exact hy.elim
        obtain ⟨m⟩:=ts
        match l,m with
        | [x, y], [t, u] =>
          simp only[ho] at hy
          split at hy
          · rename_i ha hb
            split at hy
            · rename_i m
              have hd:touch cons s o (nm (o.dst.getD 0))=true:=by
                simp only[touch,ho]
                split
                · simp[zgG]
                · rw[zgG]; rfl
              unfold appendD at hy
              split at hy
              · split at hy
                · split at hy
                  · obtain ⟨r,h1,h2⟩:=hy; cases h2
                    have hm:touch cons s o m=true:=by
                      simp only[touch,ho,ha]
                      rw[zaA.2 (show m∈zc7 s [x,y] by simp[zc7,ha,hb])]; simp
                    exact (Keep.free hm (hK _ hm)).trans (Keep.push (s:=s.free m) hd (hK _ hd))
                  · rename_i n
                    split at hy
                    · split at hy
                      · obtain ⟨r,h1,h2⟩:=hy; cases h2
                        have hm:touch cons s o m=true:=by
                          simp only[touch,ho,ha]
                          rw[zaA.2 (show m∈zc7 s [x,y] by simp[zc7,ha,hb])]; simp
                        have hn:touch cons s o n=true:=by
                          simp only[touch,ho,ha]
                          rw[zaA.2 (show n∈zc7 s [x,y] by simp[zc7,ha,hb])]; simp
                        exact ((Keep.free hn (hK _ hn)).trans (Keep.free (s:=s.free n) hm (hK _ hm))).trans (Keep.push (s:=(s.free n).free m) hd (hK _ hd))
                      · exact hy.elim
                    · exact hy.elim
                  · exact hy.elim
                · exact hy.elim
              · exact hy.elim
            · exact hbody x y t rfl _ _ _ ha hy
          · exact hy.elim
        | [],_=>simp only[ho] at hy; exact hy.elim
        | [_],_=>simp only[ho] at hy; exact hy.elim
        | [_,_],[]=>simp only[ho] at hy; exact hy.elim
        | [_,_],[_]=>simp only[ho] at hy; exact hy.elim
        | [_,_],_ :: _ :: _ :: _=>simp only[ho] at hy; exact hy.elim
        | _ :: _ :: _ :: _,_=>simp only[ho] at hy; exact hy.elim
  | makeFunc fn first caps =>
    cases fn with
    | func f =>
      simp only[ho] at hy
      split at hy
      · rename_i hc
        cases hy
        exact Keep.sealCaps (fun n=>by simp[touch,zeM,ho]) hc
      · exact hy.elim
    | _=>simp only[ho] at hy; exact hy.elim
  | move x=>simp only[ho] at hy; cases hy; exact Keep.refl _ _ _
  | assign x=>simp only[ho] at hy; cases hy; exact Keep.refl _ _ _
  | _ =>
    cases hp:zgC o with
    | true =>
      have:=(pure_local (s':=s) (lay:=lay) (cons:=cons) (o:=o) hp (fun _ _=>rfl) (fun _ _ _ _=>rfl) hy0).1
      subst this; exact Keep.refl _ _ _
    | false =>
      first
        | (simp[zgC,ho] at hp; done)
        | (simp only[ho] at hy; exact hy.elim)
        | (simp only[ho] at hy; split at hy<;>first | exact hy.elim | (simp_all [zgC]; done))
end
end Go.Di
open Go.RowKit (Below)
namespace Go.Di
/-! ### The order -/
def znt (o:Oper) (j:Nat):Bool:=o.after.any fun e=>Region.binds .any e && Nat.beq e.on j
def zEj (ops:Array Oper) (d:Nat) (o:Oper):Bool:=!zgx d (o.looksAt ops) && (match o.dst with | some u=>!Nat.beq u d | none=>true)
def zgt (ops:Array Oper) (i:Nat) (o:Oper):Bool :=
  match o.dst with
  | none=>true
  | some d=>!zgx d (o.looksAt ops) && (List.range ops.size).all fun j=>Nat.beq j i || match ops[j]? with
    | some oj=>(match oj.dst with | some u=>!Nat.beq u d | none=>true) && (!zgx d (oj.looksAt ops) || znt oj i)
    | none=>true
def ancOk (ops:Array Oper) (o:Oper):List Nat→List Nat→Bool
  | [],_=>true
  | a :: A,known=>(znt o a || known.any fun m=>match ops[m]? with
      | some om=>znt om a
      | none=>false) && ancOk ops o A (a :: known)
def zAZ (o:Oper) (pre:List Nat):Bool:=o.after.all fun e=>!Region.binds .any e || zgx e.on pre
def flo (o:Oper):Bool :=
  match o.op,o.guard,o.dst with
  | .alloc _,none,some _=>true
  | _,_,_=>false
def planOk (ops:Array Oper):List Nat→List (Nat × List Nat)→Bool
  | _,[]=>true
  | pre, (i, A) :: rest=>match ops[i]? with
    | none=>false
    | some o => zAZ o pre && (!zgx i pre) && (match early o with
        | true=>zgt ops i o
        | false=>(rest.all fun p=>match ops[p.1]? with
            | some o'=>flo o' || o'.after.any fun e=>Region.binds .any e && (Nat.beq e.on i || rest.any fun q=>Nat.beq e.on q.1 && (match ops[q.1]? with | some oq=>!flo oq | none=>false))
            | none=>false) && (!flo o || zgt ops i o) && ancOk ops o A [] && pre.all fun q=>zgx q A || match ops[q]? with
              | some oq=>!early oq || (match o.dst with | some d=>zEj ops d oq | none=>true)
              | none=>true) && planOk ops (i :: pre) rest
def zmg (ops:Array Oper) (plan:List (Nat × List Nat)):Bool :=
  planOk ops [] plan && (Nat.ble plan.length ops.size && (List.range ops.size).all fun j=>plan.any fun p=>Nat.beq j p.1)
/-! ### One operation on abstract states -/
def wantedA (ops:List Oper) (o:Oper) (s:St):Option Bool :=
  match o.guard with
  | none=>some true
  | some (j,p)=>match ops[j]? with
    | some { dst:=some t,.. }=>match s.get t with
      | .v false [.d (.bool c)]=>some (c==p)
      | .tup []=>some false
      | _=>none
    | _=>none
def zl3 (d:Option Nat) (a:AV) (s:St):St :=
  match d with
  | some t=>s.set t a
  | none=>s
def Stp (E:Env) (ops:List Oper) (o:Oper) (s s':St):Prop :=
  (wantedA ops o s=some true∧zEA o=true∧∃ av s1,(evalOp E.lay E.cons o s).Yields (av,s1)∧s'=zl3 o.dst av s1) ∨
  (wantedA ops o s=some false∧s'=zl3 o.dst (.tup []) s)
theorem zAK {s:St} {t:Nat} {a:AV} (h:s.env[t]? = some a):s.set t a=s:=by
  cases s with
  | mk env ents =>
    simp only[St.set,St.mk.injEq,and_true]
    apply List.ext_getElem?
    intro j
    rw[List.getElem?_set]
    split
    · rename_i e; subst e
      split
      · exact h.symm
      · rename_i hn
        simp only at h
        rw[List.getElem?_eq_none (by omega)] at h; cases h
    · rfl
theorem get_some {s:St} {t:Nat} {a:AV} (h:s.get t=a) (hb:a≠AV.bot):s.env[t]? = some a:=by
  unfold St.get at h
  rw[List.getD_eq_getElem?_getD] at h
  cases h':s.env[t]? with
  | none=>rw[h'] at h; exact absurd h.symm hb
  | some b=>rw[h'] at h; simpa using h
theorem runOp_stp {β:Type} {E:Env} {ops:List Oper} {o:Oper} {s:St} {k:St→Option β} {r:β} (h:runOp E ops o s k=some r):∃ s',Stp E ops o s s'∧k s'=some r:=by
  have step:∀ {s:St},zxO E o s k=some r→wantedA ops o s=some true→∃ s',Stp E ops o s s'∧k s'=some r:=by
    intro s h hw
    unfold zxO at h
    split at h
    · rename_i hwf
      obtain ⟨⟨av,s1⟩,hy,hk⟩:=zop h
      refine ⟨zl3 o.dst av s1,.inl ⟨hw,hwf,av,s1,hy,rfl⟩,?_⟩
      cases hd:o.dst with
      | none=>rw[hd] at hk; exact hk
      | some t=>rw[hd] at hk; exact hk
    · cases h
  unfold runOp at h
  split at h
  · rename_i hg
    exact step h (by simp[wantedA,hg])
  · rename_i j p hg
    split at h
    · rename_i o2 t _ _ _ _ _ hj
      have skip:wantedA ops o s=some false→zx0 o s k=some r→∃ s',Stp E ops o s s'∧k s'=some r:=by
        intro hw hk
        unfold zx0 at hk
        refine ⟨zl3 o.dst (.tup []) s,.inr ⟨hw,rfl⟩,?_⟩
        cases hd:o.dst with
        | none=>rw[hd] at hk; exact hk
        | some t=>rw[hd] at hk; exact hk
      split at h
      · rename_i hun
        exact skip (by simp only[wantedA,hg,hj,hun]) h
      · unfold zj4 at h
        split at h
        · rename_i c hc
          have hs:∀ b,c=b→s.set t (.one (.d (.bool b)))=s:=fun b hb=>zAK (by rw[← hb]; exact get_some hc (by intro e; cases e))
          have hw:wantedA ops o s=some (c==p):=by
            simp only[wantedA,hg,hj,hc]
          cases c<;>simp only[cond_true,cond_false] at h<;>rw[hs _ rfl] at h<;>cases p
          · exact step h hw
          · exact skip hw h
          · exact skip hw h
          · exact step h hw
        · cases h
    · cases h
/-! ### What an early operation's value hangs on -/
structure Stable (E:Env) (ops:List Oper) (o:Oper) (s:St) (N:List Nat):Prop where
  wf:zEA o=true
  known:∃ c,wantedA ops o s=some c
  yes:wantedA ops o s=some true→∃ av,(evalOp E.lay E.cons o s).Yields (av,s)∧zl3 o.dst av s=s∧∀ d,o.dst=some d→d < s.env.length→s.env[d]? = some av
  no:wantedA ops o s=some false→zl3 o.dst (.tup []) s=s
  opn:readsOf o=true→∀ x∈o.op.operands,∀ n∈(zaX s x).nms,2 * n∈N
  box:readsOf o=true→∀ x∈o.op.operands,∀ n∈(zaX s x).nms,∀ l,look n s.ents=some (.box l)→∀ m∈zvw l,2 * m+1∈N
  val:∀ x∈o.op.operands,∀ n∈(zaX s x).nms,2 * n+1∈N
  res:∀ d,o.dst=some d→∀ n∈(s.get d).nms,2 * n+1∈N
theorem zqx {n:Nat}:∀ {l:List Nat},n∈l→2 * n∈evens l
  | m :: r,h=>by
    unfold evens
    rcases List.mem_cons.1 h with rfl | h
    · exact List.mem_cons_self ..
    · exact List.mem_cons_of_mem _ (zqx h)
theorem zl9 {n:Nat}:∀ {l:List Nat},n∈l→2 * n+1∈odds l
  | m :: r,h=>by
    unfold odds
    rcases List.mem_cons.1 h with rfl | h
    · exact List.mem_cons_self ..
    · exact List.mem_cons_of_mem _ (zl9 h)
theorem zn3 {s:St} {x:Operand} {n:Nat}:∀ {l:List Operand},x∈l→n∈(zaX s x).nms→n∈zu7 s l
  | y :: r,hx,hn=>by
    unfold zu7
    rcases List.mem_cons.1 hx with rfl | hx
    · exact List.mem_append_left _ hn
    · exact List.mem_append_right _ (zn3 hx hn)
theorem zn4 {s:St} {n m:Nat} {l:List A1} (hl:look n s.ents=some (.box l)) (hm:m∈zvw l):∀ {r:List Nat},n∈r→m∈znr s r
  | k :: r,h=>by
    rcases List.mem_cons.1 h with rfl | h
    · simp only[znr,hl]; exact List.mem_append_left _ hm
    · have:=zn4 hl hm h
      unfold znr
      split
      · exact List.mem_append_right _ this
      · exact this
theorem zmJ {s:St} {x:Operand} {n:Nat}:∀ {l:List Operand},x∈l→(n∈(zaX s x).nms∨n∈znr s (zaX s x).nms)→n∈zEX s l
  | y :: r,h,hn=>by
    unfold zEX
    rcases List.mem_cons.1 h with rfl | h
    · rcases hn with hn | hn
      · exact List.mem_append_left _ hn
      · exact List.mem_append_right _ (List.mem_append_left _ hn)
    · exact List.mem_append_right _ (List.mem_append_right _ (zmJ h hn))
theorem zAN {f:Nat→Bool}:∀ {l:List Nat},zOS f l=true→∀ n∈l,f n=false
  | m :: r,h,n,hn=>by
    unfold zOS at h
    split at h
    · cases h
    · rename_i hm
      rcases List.mem_cons.1 hn with rfl | hn
      · exact hm
      · exact zAN h n hn
theorem zjR {f:Nat→Bool}:∀ {l:List (Nat × List Nat)},zkc f l=true→∀ p∈l,∀ n∈p.2,f n=false
  | (i,l) :: r,h,p,hp=>by
    unfold zkc at h
    split at h
    · rename_i hm
      rcases List.mem_cons.1 hp with rfl | hp
      · exact zAN hm
      · exact zjR h p hp
    · cases h
theorem zmL {A:List Nat} {i:Nat} {N:List Nat} (hi:i ∉ A):∀ {l:List (Nat × List Nat)},(i,N)∈l→(i,N)∈zrd A l
  | (j,M) :: r,h=>by
    unfold zrd
    rcases List.mem_cons.1 h with e | h
    · cases e
      split
      · rename_i hm; exact absurd (zaA.1 hm) hi
      · exact List.mem_cons_self ..
    · split
      · exact zmL hi h
      · exact List.mem_cons_of_mem _ (zmL hi h)
end Go.Di
open Go.RowKit (Below)
namespace Go.Di
section
variable {P:Program} {C:Bs} {w w':World} {s s' s1:St} {X:Nat→Prop} {bt:Nat→Option Value} {a:Act} {o:Oper} {tm:Array Value} {β:Type}
  {K:Act→World→Prop} {Q:Exit→Act→World→Prop} {E:Env} {k:St→Option β} {r:β} {ops:Array Oper} {N:List Nat} {T:Nat→Prop}
theorem zmK {t:Nat} (h:Operand.tmp t∈o.op.operands):t∈o.looksAt ops:=by
  unfold Oper.looksAt
  exact List.mem_append_left _ (List.mem_filterMap.2 ⟨.tmp t,by simpa using h,rfl⟩)
theorem zfP {j t:Nat} {p:Bool} {oj:Oper} (hg:o.guard=some (j,p)) (hj:ops[j]? = some oj) (hd:oj.dst=some t):t∈o.looksAt ops:=by
  unfold Oper.looksAt
  refine List.mem_append_right _ ?_
  simp[hg,hj,hd]
theorem zgF (h:∀ t∈o.looksAt ops,s'.get t=s.get t) {x:Operand} (hx:x∈o.op.operands):zaX s' x=zaX s x:=by
  cases x with
  | tmp t=>exact h t (zmK hx)
  | const v =>
    unfold zaX
    split
    · rename_i h; cases h
    all_goals first | rfl | (rename_i h; cases h; rfl)
  | _=>simp only[zaX]
theorem zj5 (h:∀ t∈o.looksAt ops,s'.get t=s.get t):wantedA ops.toList o s'=wantedA ops.toList o s:=by
  unfold wantedA
  cases hg:o.guard with
  | none=>rfl
  | some q =>
    obtain ⟨j,p⟩:=q
    simp only
    cases hj:ops.toList[j]? with
    | none=>rfl
    | some oj =>
      obtain ⟨dst,op,type,pos,after,guard⟩:=oj
      cases dst with
      | none=>rfl
      | some t =>
        simp only
        rw[h t (zfP hg (by rw[← hj,Array.getElem?_toList]) rfl)]
theorem wantedA_sound (g:Gam C s X bt a.tmps w) (hX:∀ t∈o.looksAt ops,¬ X t) {c:Bool} (hw:wantedA ops.toList o s=some c):Region.wanted o (yielded ops a.tmps)=c:=by
  unfold wantedA at hw
  cases hg:o.guard with
  | none=>rw[hg] at hw; cases hw; simp[Region.wanted,hg]
  | some q =>
    obtain ⟨j,p⟩:=q
    rw[hg] at hw
    simp only at hw
    split at hw
    · rename_i o2 t _ _ _ _ _ hj
      split at hw
      · rename_i b hb
        cases hw
        have hj':=hj
        rw[Array.getElem?_toList] at hj'
        have hx:=hX t (zfP hg hj' rfl)
        have hv:zaS (cx C s bt w) (.v false [.d (.bool b)]) (a.tmps.getD t undef):=g.env t _ hx (get_some hb (by intro e; cases e))
        have hb:=zf0 hv
        have hlt:t < a.tmps.size:=by
          rcases Nat.lt_or_ge t a.tmps.size with h' | h'
          · exact h'
          · simp[Array.getD,Nat.not_lt.2 h',undef] at hb
        have hget:a.tmps[t]? = some (.bool b):=by
          rw[Array.getElem?_eq_getElem hlt]; simp[Array.getD,hlt] at hb; rw[hb]
        have hy:yielded ops a.tmps j=some b:=by simp[yielded,hj',hget]
        simp only[Region.wanted,hg,hy]
        cases b<;>cases p<;>rfl
      · rename_i hun
        cases hw
        have hj':=hj
        rw[Array.getElem?_toList] at hj'
        have hx:=hX t (zfP hg hj' rfl)
        have hv:=zkI g (x := .tmp t) (fun u hu hxu=>hx (by cases hu; exact hxu))
        simp only[zaX,Act.eval] at hv
        rw[hun] at hv
        have hv:=zxA hv
        have hy:yielded ops a.tmps j=none:=by
          unfold yielded
          rw[hj']
          simp only[Option.bind_some]
          cases hg':a.tmps[t]? with
          | none=>rfl
          | some v =>
            have:v=undef:=by
              have hlt:=(Array.getElem?_eq_some_iff.1 hg').1
              have:=(Array.getElem?_eq_some_iff.1 hg').2
              simp[Array.getD,hlt] at hv
              rw[← this,hv]
            subst this; rfl
        simp only[Region.wanted,hg,hy]; rfl
      · cases hw
    · cases hw
theorem Gam.zQA (g:Gam C s X bt tm w) (d:Nat) (a:AV):Gam C (s.set d a) (fun t=>X t∨t=d) bt tm w where
  len:=by simp[St.set,g.len]
  env t av hx h:=by
    have hne:d≠t:=fun e=>hx (.inr e.symm)
    simp only[St.set,List.getElem?_set,hne,if_false] at h
    exact g.env t av (fun h=>hx (.inl h)) h
  ents:=g.ents
  uniq:=g.uniq
  fresh:=g.fresh
  kb:=g.kb
  below:=g.below
  bs:=g.bs
  fx:=g.fx
  pin:=g.pin
  np:=g.np
  tk:=g.tk
theorem zoi {d t:Nat} {a:AV} (h:d≠t):(s.set d a).get t=s.get t:=by
  simp[St.get,St.set,List.getD_eq_getElem?_getD,h]
theorem zAM {d:Option Nat} {a:AV}:(zl3 d a s).ents=s.ents:=by cases d<;>rfl
theorem zAL {d:Option Nat} {a:AV}:zl3 d a (zl3 d a s)=zl3 d a s:=by
  cases d with
  | none=>rfl
  | some t=>simp[zl3,St.set]
theorem zEN {d:Option Nat} {a:AV}:(zl3 d a s).env.length=s.env.length:=by cases d<;>simp[zl3,St.set]
theorem Stp.stable (hp:zgC o=true) (hd:∀ d,o.dst=some d→d ∉ o.looksAt ops) (h:Stp E ops.toList o s s') (hwf:zEA o=true) :
    (∃ av,s'=zl3 o.dst av s)∧Stable E ops.toList o s' (zjT s' o):=by
  have main:∀ av c,s'=zl3 o.dst av s→wantedA ops.toList o s=some c→(c=true→(evalOp E.lay E.cons o s).Yields (av,s))→(c=false→av = .tup [])→Stable E ops.toList o s' (zjT s' o):=by
    intro av c hs hw hy hn
    have hget:∀ t∈o.looksAt ops,s'.get t=s.get t:=by
      intro t ht
      rw[hs]
      cases hdst:o.dst with
      | none=>rfl
      | some d=>exact zoi fun e=>hd d hdst (e▸ht)
    have hw':wantedA ops.toList o s'=some c:=by rw[zj5 hget,hw]
    have hself:zl3 o.dst av s'=s':=by rw[hs,zAL]
    refine ⟨hwf,⟨c,hw'⟩,fun h=>?_,fun h=>?_,fun hr x hx n hn=>?_,fun hr x hx n hn l hl m hm=>?_,fun x hx n hn=>?_,fun d hdst n hn=>?_⟩
    · rw [hw'] at h; cases h
      refine ⟨av,(pure_local hp (fun x hx=>zgF hget hx) (fun x hx n hn=>?_) (hy rfl)).2,hself,fun d hdst hlt=>?_⟩
      · unfold zch; rw[hs,zAM]
      · rw[hs] at hlt ⊢
        rw[zEN] at hlt
        simp[hdst,zl3,St.set,hlt]
    · rw[hw'] at h; cases h
      rw[hn rfl] at hself; exact hself
    · unfold zjT; rw[hr]; exact List.mem_append_left _ (zqx (zn3 (by simpa using hx) hn))
    · unfold zjT; exact List.mem_append_right _ (zl9 (List.mem_append_left _ (zmJ (by simpa using hx) (.inr (zn4 hl hm hn)))))
    · unfold zjT; exact List.mem_append_right _ (zl9 (List.mem_append_left _ (zmJ (by simpa using hx) (.inl hn))))
    · unfold zjT; rw[hdst]; exact List.mem_append_right _ (zl9 (List.mem_append_right _ hn))
  rcases h with ⟨h1,h2,av,s1,h3,h4⟩ | ⟨h1,h2⟩
  · have hs1:=(pure_local (s':=s) hp (fun _ _=>rfl) (fun _ _ _ _=>rfl) h3).1
    subst hs1
    exact ⟨⟨av,h4⟩,main av true h4 h1 (fun _=>h3) (fun h=>by cases h)⟩
  · exact ⟨⟨_,h2⟩,main (.tup []) false h2 h1 (fun h=>by cases h) (fun _=>rfl)⟩
theorem ztk {lay:List (TypeId × TI)} {cons:List (FuncId × Con)} {s s' s1:St} {o:Oper} {av:AV} (hp:zgC o=true) (hop:∀ x∈o.op.operands,zaX s' x=zaX s x) (hlk:readsOf o=true→∀ x∈o.op.operands,∀ n∈(zaX s x).nms,zch n s s')
    (hy:(evalOp lay cons o s).Yields (av,s1)):s1=s∧(evalOp lay cons o s').Yields (av,s'):=by
  cases hr:readsOf o with
  | true=>exact pure_local hp hop (hlk hr) hy
  | false =>
    unfold readsOf at hr
    split at hr
    · rename_i x ho
      unfold evalOp at hy ⊢
      simp only[ho,Op.operands] at hop hy ⊢
      rw[hop x (by simp)]; cases hy; exact ⟨rfl,rfl⟩
    · cases hr
theorem Stable.agree (hp:zgC o=true) (h:Stable E ops.toList o s N) (hget:∀ t∈o.looksAt ops,s'.get t=s.get t) (hlk:readsOf o=true→∀ x∈o.op.operands,∀ n∈(zaX s x).nms,zch n s s')
    (hdst:∀ d,o.dst=some d→s'.env[d]? = s.env[d]?) (hlen:s'.env.length=s.env.length):Stable E ops.toList o s' N:=by
  have hw:=zj5 hget
  have hg:∀ d,o.dst=some d→s'.get d=s.get d:=fun d hd=>by
    unfold St.get; rw[List.getD_eq_getElem?_getD,List.getD_eq_getElem?_getD,hdst d hd]
  have self:∀ av,zl3 o.dst av s=s→zl3 o.dst av s'=s':=by
    intro av h
    cases hd:o.dst with
    | none=>rfl
    | some d =>
      rw[hd] at h
      rcases Nat.lt_or_ge d s.env.length with hl | hl
      · have h1:s.env[d]? = some av:=by
          have h2:(s.set d av).env[d]? = s.env[d]? := by rw[show s.set d av=s from h]
          rw[← h2]; simp[St.set,hl]
        exact zAK (by rw[hdst d hd,h1])
      · have hl':s'.env.length≤d:=by rw[hlen]; exact hl
        have:s'.env.set d av=s'.env:=List.set_eq_of_length_le hl'
        simp only[zl3,St.set,this]
  refine ⟨h.wf,by rw[hw]; exact h.known,fun hy=>?_,fun hn=>self _ (h.no (by rw[← hw]; exact hn)),fun hr x hx n hn=>?_,fun hr x hx n hn l hl m hm=>?_,fun x hx n hn=>?_,fun d hd n hn=>?_⟩
  · obtain ⟨av,h1,h2,h3⟩:=h.yes (by rw[← hw]; exact hy)
    refine ⟨av,(ztk hp (fun x hx=>zgF hget hx) hlk h1).2,self av h2,fun d hd hl=>?_⟩
    rw[hdst d hd]; exact h3 d hd (by rw[hlen] at hl; exact hl)
  · rw[zgF hget hx] at hn; exact h.opn hr x hx n hn
  · rw [zgF hget hx] at hn
    have hs:=hlk hr x hx n hn
    cases h':look n s.ents with
    | none=>unfold zch at hs; rw[h',hl] at hs; cases hs
    | some e =>
      cases e with
      | box l'=>rw[hs.box h'] at hl; cases hl; exact h.box hr x hx n hn l h' m hm
      | arr fr t xs=>obtain ⟨fr',h2⟩:=hs.arr h'; rw[h2] at hl; cases hl
      | deep fr t xs=>obtain ⟨fr',h2⟩:=hs.deep h'; rw[h2] at hl; cases hl
      | pool k=>unfold zch at hs; rw[h',hl] at hs; cases hs
  · rw[zgF hget hx] at hn; exact h.val x hx n hn
  · rw[hg d hd] at hn; exact h.res d hd n hn
theorem Stable.set (hp:zgC o=true) (h:Stable E ops.toList o s N) {d:Nat} {av:AV} (hl:d ∉ o.looksAt ops) (hd:o.dst≠some d):Stable E ops.toList o (s.set d av) N :=
  h.agree hp (fun t ht=>zoi fun e=>hl (e▸ht)) (fun _ _ _ _ _=>rfl) (fun u hu=>by
    have:d≠u:=fun e=>hd (e▸hu)
    simp[St.set,this]) (by simp[St.set])
theorem Stable.keep (hp:zgC o=true) (h:Stable E ops.toList o s N) {Kp:Nat→Prop} (hk:Keep T Kp s s') (hT:∀ n,2 * n∈N→¬ T n) (hK:∀ n,2 * n+1∈N→¬ Kp n):Stable E ops.toList o s' N:=by
  have slot:∀ t,(∀ m∈(s.get t).nms,¬ Kp m)→s'.env[t]? = s.env[t]? := by
    intro t ht
    cases h':s.env[t]? with
    | none =>
      rw[List.getElem?_eq_none_iff] at h' ⊢
      rw[hk.len]; exact h'
    | some av =>
      refine hk.env t av h' fun m hm=>ht m ?_
      unfold St.get; rw[List.getD_eq_getElem?_getD,h']; exact hm
  have get:∀ t,(∀ m∈(s.get t).nms,¬ Kp m)→s'.get t=s.get t:=fun t ht=>by
    unfold St.get; rw[List.getD_eq_getElem?_getD,List.getD_eq_getElem?_getD,slot t ht]
  refine h.agree hp (fun t ht=>?_) (fun hr x hx n hn=>hk.lk n (hT n (h.opn hr x hx n hn)) fun l hl m hm=>hK m (h.box hr x hx n hn l hl m hm)) (fun d hd=>slot d fun m hm=>hK m (h.res d hd m hm)) hk.len
  unfold Oper.looksAt at ht
  rcases List.mem_append.1 ht with ht | ht
  · obtain ⟨x,hx,hxt⟩:=List.mem_filterMap.1 ht
    cases x<;>simp at hxt
    subst hxt
    exact get _ fun m hm=>hK m (h.val (.tmp _) (by simpa using hx) m hm)
  · cases hg:o.guard with
    | none=>rw[hg] at ht; cases ht
    | some q =>
      obtain ⟨j,p⟩:=q
      rw[hg] at ht
      simp only[Option.mem_toList] at ht
      obtain ⟨c,hc⟩:=h.known
      unfold wantedA at hc
      rw[hg] at hc
      simp only at hc
      split at hc
      · rename_i o2 t' _ _ _ _ _ hj
        rw[Array.getElem?_toList] at hj
        have:t'=t:=by
          rw[hj] at ht; simpa using ht
        subst this
        split at hc
        · rename_i b hb
          refine get _ fun m hm=>?_
          rw[hb] at hm
          simp[AV.nms,zvw,A1.nms] at hm
        · rename_i hun
          refine get _ fun m hm=>?_
          rw[hun] at hm
          simp[AV.nms,zKz] at hm
        · cases hc
      · cases hc
end
end Go.Di
open Go.RowKit (Below)
namespace Go.Di
def Bs.more (C:Bs) (fl:Nat→Option Nat) (w:World):Bs:=⟨fun b=>C.keep b∨∃ i,fl i=some b,w,fun b=>C.old b∧¬ ∃ i,fl i=some b,C.pin,C.fix,fun b=>C.sure b∧C.keep b,C.tk⟩
section
variable {P:Program} {C:Bs} {w w' w0:World} {s s':St} {X:Nat→Prop} {β β':Nat→Option Value} {tm:Array Value} {fl:Nat→Option Nat}
def zsV (f:Nat→Option Nat) (n:Nat) (v:Option Nat):Nat→Option Nat:=fun m=>if m=n then v else f m
theorem zdm (f:Nat→Option Nat) (n:Nat) (v:Option Nat):zsV f n v n=v:=by simp[zsV]
theorem zbh (f:Nat→Option Nat) {n m:Nat} (v:Option Nat) (h:m≠n):zsV f n v m=f m:=by simp[zsV,h]
theorem Gam.zAT (g:Gam (C.more fl w0) s X β tm w):Gam (C.more fl w) s X β tm w :=
  ⟨g.len,g.env,g.ents,g.uniq,g.fresh,g.kb,Kp.refl _ _,g.pin,g.np,g.bs,fun b p hp=>⟨(g.fx b p hp).1,g.fxw b p hp⟩,g.tk⟩
theorem Gam.zA3 (g:Gam C s X β tm w):Gam (C.more (fun _=>none) w) s X β tm w:=by
  have hk:∀ b,(C.more (fun _=>none) w).keep b↔C.keep b:=fun b=>⟨fun h=>h.elim id (fun ⟨_,h⟩=>by cases h),fun h => .inl h⟩
  have hc:cx (C.more (fun _=>none) w) s β w=cx C s β w:=by
    simp only[cx,Cx.mk.injEq,true_and]
    funext b
    simp[Bs.more]
  exact ⟨g.len,fun t av hx h=>by rw[hc]; exact g.env t av hx h,fun n e v h1 h2=>by rw[hc]; exact g.ents n e v h1 h2,g.uniq,fun b hb=>⟨fun h=>(g.fresh b hb).1 ((hk b).1 h),(g.fresh b hb).2⟩,fun b hb=>g.kb b ((hk b).1 hb),Kp.refl _ _,g.pin,g.np,g.bs,fun b p hp=>⟨⟨(g.fx b p hp).1,.inl (g.fx b p hp).1.2⟩,g.fxw b p hp⟩,g.tk⟩
theorem Gam.zqw (g:Gam (C.more fl w0) s X β tm w) (h:∀ i,fl i=none) (hk:Kp C.keep C.w0 w):Gam C s X β tm w:=by
  have hno:∀ b,¬ ∃ i,fl i=some b:=fun b ⟨i,hi⟩=>by rw[h i] at hi; cases hi
  have hc:cx (C.more fl w0) s β w=cx C s β w:=by
    simp only[cx,Cx.mk.injEq,true_and]
    funext b
    simp[Bs.more,h]
  exact ⟨g.len,fun t av hx h=>by rw[← hc]; exact g.env t av hx h,fun n e v h1 h2=>by rw[← hc]; exact g.ents n e v h1 h2,g.uniq,fun b hb=>⟨fun h=>(g.fresh b hb).1 (.inl h),(g.fresh b hb).2⟩,fun b hb=>g.kb b (.inl hb),hk,g.pin,g.np,g.bs,fun b p hp=>by
    obtain ⟨cs,t,fr,h1,h2⟩:=g.fxw b p hp
    exact ⟨(g.fx b p hp).1.1,cs,t,fr,(hk.block b (g.fx b p hp).1.1.2).symm.trans h1,h2⟩,g.tk⟩
theorem Gam.fly (g:Gam (C.more fl w0) s X β tm w) {i:Nat} (hi:fl i=none) (o:Obj) (d:Nat) (v:Value) :
    Gam (C.more (zsV fl i (some w.heap.size)) (w.alloc o)) s (fun t=>X t∨t=d) β (tm.setIfInBounds d v) (w.alloc o):=by
  have hb:Below w.heap.size w (w.alloc o):=zbr w o
  have hsz:(w.alloc o).heap.size=w.heap.size+1:=by simp
  have hin:∀ b,(∃ j,zsV fl i (some w.heap.size) j=some b)↔(∃ j,fl j=some b)∨b=w.heap.size:=by
    intro b
    constructor
    · rintro ⟨j,hj⟩
      by_cases e:j=i
      · subst e; rw[zdm] at hj; cases hj; exact .inr rfl
      · rw[zbh _ _ e] at hj; exact .inl ⟨j,hj⟩
    · rintro (⟨j,hj⟩ | rfl)
      · have e:j≠i:=by intro e; subst e; rw[hi] at hj; cases hj
        exact ⟨j,by rw[zbh _ _ e]; exact hj⟩
      · exact ⟨i,zdm ..⟩
  -- what was read before is read now
  have hrd : ∀ v c,(cx (C.more fl w0) s β w).rd v c→(cx (C.more (zsV fl i (some w.heap.size)) (w.alloc o)) s β (w.alloc o)).rd v c:=by
    rintro v c ⟨fp,h1,h2⟩
    refine ⟨fp,h1.ext fun b hb'=>hb.block b (h2 b hb').1,fun b hb'=>⟨?_,(h2 b hb').2.1,?_⟩⟩
    · have:=(h2 b hb').1; show b < (w.alloc o).heap.size; simp only[cx] at this; omega
    · have hlt:b < w.heap.size:=(h2 b hb').1
      rcases (h2 b hb').2.2 with h | h
      · refine .inl fun hk=>?_
        rcases hk with hk | hk
        · exact h (.inl hk)
        · rcases (hin b).1 hk with hk | hk
          · exact h (.inr hk)
          · omega
      · refine .inr ⟨h.1,fun hk=>?_⟩
        rcases (hin b).1 hk with hk | hk
        · exact h.2 hk
        · omega
  have hfine:∀ b,(cx (C.more fl w0) s β w).fine [b]→(cx (C.more (zsV fl i (some w.heap.size)) (w.alloc o)) s β (w.alloc o)).fine [b]:=by
    intro b hf b' hb'
    simp only[List.mem_singleton] at hb'; subst hb'
    have h2:=hf b' (List.mem_cons_self ..)
    have hlt:b' < w.heap.size:=h2.1
    refine ⟨?_,h2.2.1,?_⟩
    · show b' < (w.alloc o).heap.size; omega
    · rcases h2.2.2 with h | h
      · refine .inl fun hk=>?_
        rcases hk with hk | hk
        · exact h (.inl hk)
        · rcases (hin b').1 hk with hk | hk
          · exact h (.inr hk)
          · omega
      · refine .inr ⟨h.1,fun hk=>?_⟩
        rcases (hin b').1 hk with hk | hk
        · exact h.2 hk
        · omega
  have hcat:∀ b q cs,(cx (C.more fl w0) s β w).za8 b q cs→(cx (C.more (zsV fl i (some w.heap.size)) (w.alloc o)) s β (w.alloc o)).za8 b q cs:=by
    intro b q cs h2
    refine ⟨h2.1.imp id (hfine b),fun j c hc=>?_⟩
    obtain ⟨u,hu,hd⟩:=h2.2 j c hc
    refine ⟨u,?_,hrd u c hd⟩
    rcases h2.1 with h0 | h0
    · subst h0; cases hc
    · have:=h0 b (List.mem_cons_self ..)
      show (w.alloc o).cell? _=_
      rw[World.cell?_of_block (w:=w) (hb.block b this.1)]; exact hu
  have ha1:∀ b v,A1Ok (cx (C.more fl w0) s β w) b v→A1Ok (cx (C.more (zsV fl i (some w.heap.size)) (w.alloc o)) s β (w.alloc o)) b v:=by
    intro b v h
    cases b with
    | d c=>exact hrd v c h
    | sp cs off =>
      obtain ⟨b,q,h1,h2⟩:=h
      exact ⟨b,q,h1,hcat b q cs h2⟩
    | fn f caps =>
      obtain ⟨vs,h1,h2,h3⟩:=h
      refine ⟨vs,h1,h2,fun j cs hj=>?_⟩
      obtain ⟨b,q,h4,h5⟩:=h3 j cs hj
      exact ⟨b,q,h4,hcat b q cs h5⟩
    | _=>exact h
  have hl1:∀ l vs,zcm (cx (C.more fl w0) s β w) l vs→zcm (cx (C.more (zsV fl i (some w.heap.size)) (w.alloc o)) s β (w.alloc o)) l vs:=fun l vs h=>h.conv fun a _ v ha=>ha1 a v ha
  refine ⟨by simp[g.len],fun t av hx h=>?_,fun n e u h1 h2=>?_,g.uniq,fun b h=>?_,fun b h=>?_,Kp.refl _ _,g.pin,g.np,g.bs,fun b p hp=>⟨⟨(g.fx b p hp).1.1,.inl (g.fx b p hp).1.1.2⟩,by
    obtain ⟨cs,t,fr,h1,h2⟩:=g.fxw b p hp
    exact ⟨cs,t,fr,(hb.block b (g.kb b (g.fx b p hp).1.2)).trans h1,h2⟩⟩,g.tk⟩
  · have hne:d≠t:=fun e=>hx (.inr e.symm)
    have hv:(tm.setIfInBounds d v).getD t undef=tm.getD t undef:=by
      rw[Array.getD_eq_getD_getElem?,Array.getD_eq_getD_getElem?,Array.getElem?_setIfInBounds_ne hne]
    rw[hv]
    have:=g.env t av (fun h=>hx (.inl h)) h
    cases av with
    | v gg l=>exact VOk.conv (fun a _ v ha=>ha1 a v ha) this
    | tup ps=>obtain ⟨vs,e1,e2⟩:=this; exact ⟨vs,e1,e2.conv fun p _ a _ v ha=>ha1 a v ha⟩
  · have := g.ents n e u h1 h2
    have hT:e.mut=true→∀ b∈zao u,b < w.heap.size:=fun hm b hbt=>(g.fresh b ⟨n,e,u,h1,hm,h2,hbt⟩).2
    cases e with
    | pool q=>exact zh6.go this fun b hbt=>hb.block b (hT rfl b hbt)
    | box l =>
      obtain ⟨b,vs,T,k1,k2,k3⟩:=this
      refine ⟨b,vs,T,k1,?_,hl1 _ _ k3⟩
      show (w.alloc o).heap[b]? = _
      rw[hb.block b (hT rfl b (by subst k1; simp[zao]))]; exact k2
    | deep fr t xs =>
      cases fr with
      | false=>exact DeepOk.go this fun b hbt=>hb.block b (hT rfl b hbt)
      | true =>
        obtain ⟨sv,us,e1,hcd,h4⟩:=this
        refine ⟨sv,us,e1,hcd,?_⟩
        rcases h4 with h0 | ⟨gb,cap,k1,k2,k3,k4⟩
        · exact .inl h0
        · refine .inr ⟨gb,cap,k1,k2,hfine gb k3,fun j c hc=>?_⟩
          obtain ⟨u,b,q1,q2,q3,q4⟩:=k4 j c hc
          refine ⟨u,b,?_,q2,hrd u c q3,q4⟩
          have:=k3 gb (List.mem_cons_self ..)
          show (w.alloc o).cell? _=_
          rw[World.cell?_of_block (w:=w) (hb.block gb this.1)]; exact q1
    | arr fr t xs =>
      cases fr with
      | true=>exact hrd _ _ this
      | false =>
        rcases this with h0 | ⟨gb,cap,cur,T,k1,k2,k3,k4,k5,k6,k7⟩
        · exact .inl h0
        · refine .inr ⟨gb,cap,cur,T,k1,k2,k3,k4,?_,k6,fun j c hc=>?_⟩
          · show (w.alloc o).heap[gb]? = _
            rw[hb.block gb (hT rfl gb (by subst k1; cases cap with | zero=>omega | succ q=>simp[zao]))]; exact k5
          · obtain ⟨u',q1,q2⟩:=k7 j c hc
            exact ⟨u',q1,hrd u' c q2⟩
  · obtain ⟨q1,q2⟩:=g.fresh b h
    refine ⟨fun hk=>?_,by omega⟩
    rcases hk with hk | hk
    · exact q1 (.inl hk)
    · rcases (hin b).1 hk with hk | hk
      · exact q1 (.inr hk)
      · omega
  · rcases h with hk | hk
    · have:=g.kb b (.inl hk); omega
    · rcases (hin b).1 hk with hk | hk
      · have:=g.kb b (.inr hk); omega
      · omega
theorem Gam.land (g:Gam (C.more fl w0) s X β tm w) {i b n:Nat} (hi:fl i=some b) (hinj:∀ j,fl j=some b→j=i) (hkb:¬ C.keep b) (hn:n % 64≠63) {l:List A1} {vs:Array Value} {T:TypeId}
    (hl:∀ x:Cx,zcm x l vs.toList) (hh:w.heap[b]? = some (.cells vs T (0,0))) :
    Gam (C.more (zsV fl i none) w) (s.push n (.box l)) X (upd β n (.pointer (some ⟨b,0,none⟩))) tm w:=by
  have g1:=g.free n
  obtain ⟨hno1,hno2⟩:=zn2 n s
  have hblt:b < w.heap.size:=by
    rcases Nat.lt_or_ge b w.heap.size with h | h
    · exact h
    · rw[Array.getElem?_eq_none h] at hh; cases hh
  have hkb':(C.more fl w0).keep b := .inr ⟨i,hi⟩
  have hin:∀ x,(∃ j,zsV fl i none j=some x)↔(∃ j,fl j=some x)∧x≠b:=by
    intro x
    constructor
    · rintro ⟨j,hj⟩
      by_cases e:j=i
      · subst e; rw[zdm] at hj; cases hj
      · rw[zbh _ _ e] at hj
        exact ⟨⟨j,hj⟩,fun hx=>e (hinj j (hx▸hj))⟩
    · rintro ⟨⟨j,hj⟩,hx⟩
      have e:j≠i:=by intro e; subst e; rw[hi] at hj; cases hj; exact hx rfl
      exact ⟨j,by rw[zbh _ _ e]; exact hj⟩
  have hlk:∀ m,look m (s.push n (.box l)).ents=if m=n then some (.box l) else look m (s.free n).ents:=fun m=>by
    show look m (put n (.box l) (s.free n).ents)=_
    rw[za6]
  have htop:∀ x,Top (fun m=>look m (s.push n (.box l)).ents) (upd β n (.pointer (some ⟨b,0,none⟩))) x→x=b∨Top (fun m=>look m (s.free n).ents) β x:=by
    rintro x ⟨m,e,v,h1,h2,h3,h4⟩
    simp only[hlk] at h1
    split at h1
    · rename_i hm; subst hm
      cases h1
      rw[upd_same] at h3; cases h3
      simp[zao] at h4; exact .inl h4
    · rename_i hm
      rw[zaw _ _ hm] at h3
      exact .inr ⟨m,e,v,h1,h2,h3,h4⟩
  have hPN:PN≠n:=fun h=>hn (h▸by decide)
  have htk:zd5 (upd β n (.pointer (some ⟨b,0,none⟩)))=zd5 β:=by funext i; simp only[zd5,zaw _ _ hPN]
  have hle:Le (cx (C.more fl w0) (s.free n) β w) (cx (C.more (zsV fl i none) w) (s.push n (.box l)) (upd β n (.pointer (some ⟨b,0,none⟩))) w) (fun m=>m≠n):=by
    refine ⟨fun x h=>?_,fun _ _ _=>rfl,Nat.le_refl _,fun x hlt hav ht=>?_,fun m hm => .inr (.inl ⟨zaw _ _ hm,.inl ?_⟩),fun m hm _ fr t xs h=>⟨fr,?_,zaw _ _ hm⟩,fun i v h=>(congrFun htk i).trans h⟩
    · rcases h with h | h
      · refine .inl fun hk=>h ?_
        rcases hk with hk | hk
        · exact .inl hk
        · exact .inr ((hin x).1 hk).1
      · exact .inr ⟨h.1,fun hk=>h.2 ((hin x).1 hk).1⟩
    · rcases htop x ht with rfl | h
      · exfalso
        rcases hav with h | h
        · exact h hkb'
        · exact h.2 ⟨i,hi⟩
      · exact h
    · show look m (s.push n (.box l)).ents=look m (s.free n).ents
      rw[hlk,if_neg hm]
    · have h:look m (s.push n (.box l)).ents=some (.deep fr t xs):=h
      rw[hlk,if_neg hm] at h
      exact h
  refine ⟨g1.len,fun t av hx h=>?_,fun m e v h1 h2=>?_,?_,fun x h=>?_,fun x h=>?_,Kp.refl _ _,fun m v hp h=>?_,g.np,fun m e h=>?_,fun b p hp=>⟨⟨(g1.fx b p hp).1.1,.inl (g1.fx b p hp).1.1.2⟩,g1.fxw b p hp⟩,fun π hπ=>⟨htk.trans (g1.tk π hπ).1,by rw[hlk,if_neg hPN]; exact (g1.tk π hπ).2⟩⟩
  · exact hle.av (hno1.1 t av h) (g1.env t av hx h)
  · rw [hlk] at h1
    split at h1
    · rename_i hm; subst hm
      cases h1
      rw[upd_same] at h2; cases h2
      exact ⟨b,vs,T,rfl,hh,hl _⟩
    · rename_i hm
      rw[zaw _ _ hm] at h2
      exact EntOk.le hle (hno1.2 m e h1) (fun _ _ _=>rfl) (g1.ents m e v h1 h2)
  · intro m1 m2 e1 e2 u1 u2 x h1 h2 h3 h4 h5 h6 h7 h8
    rw[hlk] at h1 h2
    have old:∀ m e u,look m (s.free n).ents=some e→e.mut=true→β m=some u→x∈zao u→x≠b:=fun m e u k1 k2 k3 k4 hx =>
      (g1.fresh x ⟨m,e,u,k1,k2,k3,k4⟩).1 (hx▸hkb')
    split at h1<;>split at h2
    · rename_i a1 a2; rw[a1,a2]
    · rename_i a1 a2; subst a1; cases h1
      rw[upd_same] at h5; cases h5
      rw[zaw _ _ a2] at h6
      simp[zao] at h7
      exact absurd h7 (old m2 e2 u2 h2 h4 h6 h8)
    · rename_i a1 a2; subst a2; cases h2
      rw[upd_same] at h6; cases h6
      rw[zaw _ _ a1] at h5
      simp[zao] at h8
      exact absurd h8 (old m1 e1 u1 h1 h3 h5 h7)
    · rename_i a1 a2
      rw[zaw _ _ a1] at h5; rw[zaw _ _ a2] at h6
      exact g1.uniq m1 m2 e1 e2 u1 u2 x h1 h2 h3 h4 h5 h6 h7 h8
  · rcases htop x h with rfl | h
    · refine ⟨fun hk=>?_,hblt⟩
      rcases hk with hk | hk
      · exact hkb hk
      · exact ((hin x).1 hk).2 rfl
    · obtain ⟨q1,q2⟩:=g1.fresh x h
      refine ⟨fun hk=>q1 ?_,q2⟩
      rcases hk with hk | hk
      · exact .inl hk
      · exact .inr ((hin x).1 hk).1
  · rcases h with h | h
    · exact g.kb x (.inl h)
    · exact g.kb x (.inr ((hin x).1 h).1)
  · by_cases hm:m=n
    · subst hm; exact absurd (g.np m (by rw[show (C.more fl w0).pin m=some v from hp]; rfl)).1 hn
    · rw[zaw _ _ hm]
      rw[hlk,if_neg hm] at h
      exact g1.pin m v hp h
  · by_cases hm:m=n
    · subst hm; rw[upd_same]; rfl
    · rw[zaw _ _ hm]
      rw[hlk,if_neg hm] at h
      exact g1.bs m e h
end
end Go.Di
open Go.RowKit (Below)
namespace Go.Di
section
variable {P:Program} {C:Bs} {w w':World} {s s' s1:St} {X:Nat→Prop} {bt:Nat→Option Value} {a:Act} {o:Oper} {tm:Array Value} {β:Type}
  {K:Act→World→Prop} {Q:Exit→Act→World→Prop} {E:Env} {k:St→Option β} {r:β} {ops:Array Oper} {N:List Nat} {T:Nat→Prop}
/-! ### Ticks -/
def Un (listed:Array Bool) (j:Nat):Prop:=listed.getD j true=false
def Li (listed:Array Bool) (j:Nat):Prop:=listed.getD j false=true
theorem zhd {l:Array Bool} {j:Nat} (h:Un l j):¬ Li l j:=by
  unfold Un Li at *
  intro h'
  rcases Nat.lt_or_ge j l.size with hl | hl
  · simp[Array.getD,hl] at h h'; rw[h] at h'; cases h'
  · simp[Array.getD,Nat.not_lt.2 hl] at h
theorem zO5 {l:Array Bool} {j:Nat} (h:Un l j):j < l.size:=by
  unfold Un at h
  rcases Nat.lt_or_ge j l.size with hl | hl
  · exact hl
  · simp[Array.getD,Nat.not_lt.2 hl] at h
theorem zCE {l:Array Bool} {j:Nat} (hl:j < l.size) (h:¬ Un l j):Li l j:=by
  unfold Un Li at *
  simp[Array.getD,hl] at h ⊢; exact h
theorem zlL {l:Array Bool} {i j:Nat} (h:Li l j):Li (l.setIfInBounds i true) j:=getD_set_true h
theorem zug {l:Array Bool} {i:Nat} (h:i < l.size):Li (l.setIfInBounds i true) i:=by
  unfold Li; simp[Array.getD,h]
theorem znM {l:Array Bool} {i j:Nat} (h:Un l j) (hne:i≠j):Un (l.setIfInBounds i true) j:=by
  unfold Un at *; rw[getD_set_ne true hne]; exact h
theorem zyB {l:Array Bool} {i j:Nat} (h:Li (l.setIfInBounds i true) j):Li l j∨j=i:=by
  by_cases e:i=j
  · exact .inr e.symm
  · unfold Li at *; rw[getD_set_ne false e] at h; exact .inl h
/-! ### What the check of a plan says -/
theorem zx3 {pre:List Nat} (h:zAZ o pre=true):∀ e∈o.after,Region.binds .any e=true→e.on∈pre:=by
  intro e he hb
  have:=Array.all_eq_true_iff_forall_mem.1 h e he
  simp only[hb,Bool.not_true,Bool.false_or] at this
  exact zaA.1 this
theorem zgS {j:Nat} (h:znt o j=true):∃ e∈o.after,Region.binds .any e=true∧e.on=j:=by
  obtain ⟨e,he,hb⟩:=Array.any_eq_true'.1 h
  simp only[Bool.and_eq_true] at hb
  exact ⟨e,he,hb.1,Nat.eq_of_beq_eq_true hb.2⟩
structure HeadOk (ops:Array Oper) (pre:List Nat) (i:Nat) (A:List Nat) (rest:List (Nat × List Nat)) (o:Oper):Prop where
  preds:∀ e∈o.after,Region.binds .any e=true→e.on∈pre
  nin:i ∉ pre
  ear:early o=true→zgt ops i o=true
  forced:early o=false→∀ p∈rest,∃ o',ops[p.1]? = some o'∧(flo o'=true∨∃ e∈o'.after,Region.binds .any e=true∧(e.on=i∨∃ q∈rest,e.on=q.1∧∃ oq,ops[q.1]? = some oq∧flo oq=false))
  fl:early o=false→flo o=true→zgt ops i o=true
  anc:early o=false→ancOk ops o A []=true
  slots:early o=false→∀ q∈pre,q∈A∨∀ oq,ops[q]? = some oq→early oq=true→∀ d,o.dst=some d→d ∉ oq.looksAt ops∧oq.dst≠some d
  tail:planOk ops (i :: pre) rest=true
theorem planOk_head {pre:List Nat} {i:Nat} {A:List Nat} {rest:List (Nat × List Nat)} (h:planOk ops pre ((i,A) :: rest)=true):∃ o,ops[i]? = some o∧HeadOk ops pre i A rest o:=by
  unfold planOk at h
  cases ho:ops[i]? with
  | none=>rw[ho] at h; cases h
  | some o =>
    rw[ho] at h
    simp only[Bool.and_eq_true,Bool.not_eq_true'] at h
    obtain ⟨⟨⟨h1,h2⟩,h3⟩,h4⟩:=h
    refine ⟨o,rfl,zx3 h1,fun hm=>(by rw[zaA.2 hm] at h2; cases h2),fun he=>(by rw[he] at h3; exact h3),fun he p hp=>?_,fun he hf=>?_,fun he=>?_,fun he q hq=>?_,h4⟩
    · rw [he] at h3
      simp only[Bool.and_eq_true] at h3
      have:=List.all_eq_true.1 h3.1.1.1 p hp
      cases hop:ops[p.1]? with
      | none=>rw[hop] at this; cases this
      | some o' =>
        rw[hop] at this
        rcases (Bool.or_eq_true _ _).mp this with hf | this
        · exact ⟨o',rfl,.inl hf⟩
        obtain ⟨e,he',hb⟩:=Array.any_eq_true'.1 this
        simp only[Bool.and_eq_true,Bool.or_eq_true] at hb
        refine ⟨o',rfl,.inr ⟨e,he',hb.1,?_⟩⟩
        rcases hb.2 with h | h
        · exact .inl (Nat.eq_of_beq_eq_true h)
        · obtain ⟨q,hq,hqe⟩:=List.any_eq_true.1 h
          simp only[Bool.and_eq_true] at hqe
          refine .inr ⟨q,hq,Nat.eq_of_beq_eq_true hqe.1,?_⟩
          have h2:=hqe.2
          split at h2
          · rename_i oq hoq; exact ⟨oq,hoq,by simpa using h2⟩
          · cases h2
    · rw[he] at h3
      simp only[Bool.and_eq_true] at h3
      have:=h3.1.1.2
      rw[hf] at this
      simpa using this
    · rw[he] at h3
      simp only[Bool.and_eq_true] at h3
      exact h3.1.2
    · rw [he] at h3
      simp only[Bool.and_eq_true] at h3
      have:=List.all_eq_true.1 h3.2 q hq
      simp only[Bool.or_eq_true] at this
      rcases this with h | h
      · exact .inl (zaA.1 h)
      · refine .inr fun oq hoq heq d hd=>?_
        rw[hoq] at h
        simp only[heq,Bool.not_true,Bool.false_eq_true,false_or,hd,Bool.or_eq_true] at h
        unfold zEj at h
        simp only[Bool.and_eq_true,Bool.not_eq_true'] at h
        refine ⟨fun hm=>(by rw[zaA.2 hm] at h; cases h.1),fun he=>?_⟩
        rw[he] at h
        simp at h
theorem zfI:∀ {rest:List (Nat × List Nat)} {pre:List Nat},planOk ops pre rest=true→∀ p∈rest,p.1 ∉ pre
  | (i,A) :: rest,pre,h,p,hp=>by
    obtain ⟨o,ho,hh⟩:=planOk_head h
    rcases List.mem_cons.1 hp with rfl | hp
    · exact hh.nin
    · intro hm
      exact zfI hh.tail p hp (List.mem_cons_of_mem _ hm)
def zHK (ops:Array Oper):List Nat→Prop
  | []=>True
  | i :: pre=>(∃ o,ops[i]? = some o∧∀ e∈o.after,Region.binds .any e=true→e.on∈pre)∧zHK ops pre
theorem zjS:∀ {pre:List Nat},zHK ops pre→∀ q∈pre,∃ o,ops[q]? = some o∧∀ e∈o.after,Region.binds .any e=true→e.on∈pre
  | i :: pre,h,q,hq=>by
    rcases List.mem_cons.1 hq with rfl | hq
    · obtain ⟨o,ho,hp⟩:=h.1
      exact ⟨o,ho,fun e he hb=>List.mem_cons_of_mem _ (hp e he hb)⟩
    · obtain ⟨o,ho,hp⟩:=zjS h.2 q hq
      exact ⟨o,ho,fun e he hb=>List.mem_cons_of_mem _ (hp e he hb)⟩
theorem zmn {listed:Array Bool} (hs:listed.size=ops.size) (hr:Region.ready .any ops listed=[]):∀ {pre:List Nat},zHK ops pre→∀ q∈pre,Li listed q
  | i :: pre,h,q,hq=>by
    rcases List.mem_cons.1 hq with rfl | hq
    · obtain ⟨o,ho,hp⟩:=h.1
      have hlt:q < listed.size:=by rw[hs]; exact (Array.getElem?_eq_some_iff.1 ho).1
      refine zCE hlt fun hu=>?_
      have:q∈Region.ready .any ops listed:=mem_ready.2 ⟨hu,o,ho,fun e he hb=>zmn hs hr h.2 _ (hp e he hb)⟩
      rw[hr] at this; cases this
    · exact zmn hs hr h.2 q hq
theorem anc_listed {listed:Array Bool} (hc:∀ j o,ops[j]? = some o→Li listed j→∀ e∈o.after,Region.binds .any e=true→Li listed e.on)
    (ho:∀ e∈o.after,Region.binds .any e=true→Li listed e.on):∀ {A known:List Nat},ancOk ops o A known=true→(∀ q∈known,Li listed q)→∀ q∈A,Li listed q
  | b :: A,known,h,hk,q,hq=>by
    unfold ancOk at h
    simp only[Bool.and_eq_true,Bool.or_eq_true] at h
    have hb:Li listed b:=by
      rcases h.1 with h1 | h1
      · obtain ⟨e,he,hb,rfl⟩:=zgS h1
        exact ho e he hb
      · obtain ⟨m,hm,h2⟩:=List.any_eq_true.1 h1
        cases hom:ops[m]? with
        | none=>rw[hom] at h2; cases h2
        | some om =>
          rw[hom] at h2
          obtain ⟨e,he,hb,rfl⟩:=zgS h2
          exact hc m om hom (hk m hm) e he hb
    rcases List.mem_cons.1 hq with rfl | hq
    · exact hb
    · exact anc_listed hc ho h.2 (fun q hq=>(by rcases List.mem_cons.1 hq with rfl | hq; exact hb; exact hk q hq)) q hq
theorem zeW {i:Nat} (h:zgt ops i o=true) {d:Nat} (hd:o.dst=some d):d ∉ o.looksAt ops∧∀ j oj,ops[j]? = some oj→j≠i→oj.dst≠some d∧(d∈oj.looksAt ops→znt oj i=true):=by
  unfold zgt at h
  rw[hd] at h
  simp only[Bool.and_eq_true,Bool.not_eq_true'] at h
  refine ⟨fun hm=>(by rw[zaA.2 hm] at h; cases h.1),fun j oj hj hne=>?_⟩
  have:=List.all_eq_true.1 h.2 j (List.mem_range.2 (Array.getElem?_eq_some_iff.1 hj).1)
  rw[hj] at this
  simp only[Bool.or_eq_true,Bool.and_eq_true,Bool.not_eq_true'] at this
  rcases this with h1 | ⟨h1,h2⟩
  · exact absurd (Nat.eq_of_beq_eq_true h1) hne
  · refine ⟨fun he=>(by rw[he] at h1; simp at h1),fun hm=>?_⟩
    rcases h2 with h2 | h2
    · rw[zaA.2 hm] at h2; cases h2
    · exact h2
theorem ziG (h:early o=true):zgC o=true:=by
  unfold early at h
  split at h
  · cases h
  · simp only[Bool.and_eq_true] at h; exact h.2
theorem zFO (h:early o=true):zEA o=true:=by
  unfold early at h
  split at h
  · cases h
  · simp only[Bool.and_eq_true] at h; exact h.1
theorem znX:∀ {rest:List (Nat × List Nat)} {pre:List Nat},planOk ops pre rest=true→∀ p∈rest,∀ o,ops[p.1]? = some o→early o=false→flo o=true→zgt ops p.1 o=true
  | (i,A) :: rest,pre,h,p,hp,o,ho,he,hf=>by
    obtain ⟨o',ho',hh⟩:=planOk_head h
    rcases List.mem_cons.1 hp with rfl | hp
    · rw[ho] at ho'; cases ho'; exact hh.fl he hf
    · exact znX hh.tail p hp o ho he hf
theorem zpb (h:flo o=true):∃ t d,o.op = .alloc t∧o.guard=none∧o.dst=some d:=by
  unfold flo at h
  split at h
  · exact ⟨_,_,by assumption,by assumption,by assumption⟩
  · cases h
theorem zpc (h:flo o=true):early o=false:=by
  obtain ⟨t,d,h1,_,_⟩:=zpb h
  simp[early,h1,zgC]
/-! ### The walk through any order -/
structure FlOk (C:Bs) (lay:List (TypeId × TI)) (ops:Array Oper) (listed:Array Bool) (rest:List (Nat × List Nat)) (tm:Array Value) (w:World) (q b:Nat):Prop where
  keep:¬ C.keep b
  li:Li listed q
  rest:∃ A,(q,A)∈rest
  op : ∃ o t d i vs,ops[q]? = some o∧flo o=true∧o.op = .alloc t∧o.dst=some d∧zgt ops q o=true∧tm.setIfInBounds d (.pointer (some ⟨b,0,none⟩))=tm∧zcE t lay=some i ∧
    w.heap[b]? = some (.cells vs t (0,0))∧∀ x:Cx,zcm x i.zero vs.toList
structure Inv (C:Bs) (E:Env) (ops:Array Oper) (k:St→Option β) (r:β) (listed:Array Bool) (pre:List Nat) (rest op:List (Nat × List Nat)) (Pd:List Nat) (fl:Nat→Option Nat) (s:St) (X:Nat→Prop) (bt:Nat→Option Value) (a:Act) (w:World):Prop where
  gam:Gam (C.more fl w) s X bt a.tmps w
  kp:Kp C.keep C.w0 w
  defers:a.defers=[]
  hx:∀ t,X t→(∃ q∈Pd,∃ o,ops[q]? = some o∧o.dst=some t)∨∃ q b o,fl q=some b∧ops[q]? = some o∧o.dst=some t
  size:listed.size=ops.size
  all:∀ j,j < ops.size→Li listed j∨(∃ p∈rest,p.1=j)∨j∈Pd
  unR:∀ p∈rest,Un listed p.1∨∃ b,fl p.1=some b
  unP:∀ q∈Pd,Un listed q
  pdPre:∀ q∈Pd,q∈pre
  pdNodup:Pd.Nodup
  stab:∀ q∈Pd,∃ o N,ops[q]? = some o∧(q,N)∈op∧early o=true∧zgt ops q o=true∧Stable E ops.toList o s N
  closed:∀ j o,ops[j]? = some o→Li listed j→∀ e∈o.after,Region.binds .any e=true→Li listed e.on
  preOk:zHK ops pre
  plan:planOk ops pre rest=true
  run:runD E ops.toList rest op s k=some r
  flOk:∀ q b,fl q=some b→FlOk C E.lay ops listed rest a.tmps w q b
  flInj:∀ q q' b,fl q=some b→fl q'=some b→q=q'
theorem Inv.ahead {listed:Array Bool} {pre:List Nat} {rest op:List (Nat × List Nat)} {Pd A:List Nat} {i:Nat} {fl:Nat→Option Nat} (h:Inv C E ops k r listed pre ((i,A) :: rest) op Pd fl s X bt a w)
    (ho:ops[i]? = some o) (he:early o=true):∃ op' s' X',Inv C E ops k r listed (i :: pre) rest op' (i :: Pd) fl s' X' bt a w:=by
  obtain ⟨o2,ho2,hh⟩:=planOk_head h.plan
  rw[ho] at ho2; cases ho2
  have hrun:=h.run
  unfold runD at hrun
  rw[Array.getElem?_toList,ho] at hrun
  simp only[he] at hrun
  obtain ⟨s',hst,hk⟩:=runOp_stp hrun
  have hp:=ziG he
  have hE:=hh.ear he
  have hwf:zEA o=true:=zFO he
  obtain ⟨⟨av,hs'⟩,hstab⟩:=hst.stable hp (fun d hd=>(zeW hE hd).1) hwf
  have hfi:∀ b,fl i≠some b:=fun b hb=>by
    obtain ⟨o3,t,d,i3,vs,e1,e2,_⟩:=(h.flOk i b hb).op
    rw[ho] at e1; cases e1
    rw[zpc e2] at he; cases he
  refine ⟨_,s',fun t=>X t∨o.dst=some t,?_,h.kp,h.defers,fun t ht=>?_,h.size,fun j hj=>?_,fun p hp=>h.unR p (List.mem_cons_of_mem _ hp),fun q hq=>?_,fun q hq=>?_,?_,fun q hq=>?_,h.closed,⟨⟨o,ho,hh.preds⟩,h.preOk⟩,hh.tail,hk,fun q b hq=>?_,h.flInj⟩
  · rw[hs']
    cases hd:o.dst with
    | none=>exact h.gam.weaken fun t ht => .inl ht
    | some d=>exact (h.gam.zQA d av).weaken fun t ht=>ht.imp id fun e=>by rw[e]
  · rcases ht with ht | ht
    · rcases h.hx t ht with ⟨q,hq,x⟩ | x
      · exact .inl ⟨q,List.mem_cons_of_mem _ hq,x⟩
      · exact .inr x
    · exact .inl ⟨i,List.mem_cons_self ..,o,ho,ht⟩
  · rcases h.all j hj with h1 | ⟨p,hp,rfl⟩ | h1
    · exact .inl h1
    · rcases List.mem_cons.1 hp with rfl | hp
      · exact .inr (.inr (List.mem_cons_self ..))
      · exact .inr (.inl ⟨p,hp,rfl⟩)
    · exact .inr (.inr (List.mem_cons_of_mem _ h1))
  · rcases List.mem_cons.1 hq with rfl | hq
    · exact (h.unR _ (List.mem_cons_self ..)).resolve_right fun ⟨b,hb⟩=>hfi b hb
    · exact h.unP q hq
  · rcases List.mem_cons.1 hq with rfl | hq
    · exact List.mem_cons_self ..
    · exact List.mem_cons_of_mem _ (h.pdPre q hq)
  · exact List.nodup_cons.2 ⟨fun hm=>hh.nin (h.pdPre i hm),h.pdNodup⟩
  · rcases List.mem_cons.1 hq with rfl | hq
    · exact ⟨o,_,ho,List.mem_cons_self ..,he,hE,hstab⟩
    · obtain ⟨oq,M,h1,h2,h3,h4,h5⟩:=h.stab q hq
      refine ⟨oq,M,h1,List.mem_cons_of_mem _ h2,h3,h4,?_⟩
      rw[hs']
      cases hd:o.dst with
      | none=>exact h5
      | some d =>
        have hne:q≠i:=fun e=>hh.nin (e▸h.pdPre q hq)
        obtain ⟨h6,h7⟩:=(zeW hE hd).2 q oq h1 hne
        refine h5.set (ziG h3) (fun hm=>?_) h6
        obtain ⟨e,he',hb,heq⟩:=zgS (h7 hm)
        obtain ⟨o3,ho3,hp3⟩:=zjS h.preOk q (h.pdPre q hq)
        rw[h1] at ho3; cases ho3
        have:=hp3 e he' hb
        rw[heq] at this
        exact hh.nin this
  · have hf:=h.flOk q b hq
    refine ⟨hf.keep,hf.li,?_,hf.op⟩
    obtain ⟨B,hB⟩:=hf.rest
    rcases List.mem_cons.1 hB with e | hB
    · cases e; exact absurd hq (hfi b)
    · exact ⟨B,hB⟩
end
end Go.Di
